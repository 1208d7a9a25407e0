/- Part 32 of the proof. No condition: every lemma says its own. -/
import Derived.Test.YtkekenaamnhbhaaGreatZsbe
namespace Go.Proofs.YtkekenaamnhbhaaGreat
open Go.RowKit Go.Sort Go.BigFrame
open Go.RowKit Go.BigFrame
set_option maxRecDepth 100000
set_option maxHeartbeats 16000000
inductive AllG : MRe → Prop
 | mk {op sa sc set ka kc kids mn mx mode n neg} (h : nodeG (.node op sa sc set ka kc kids mn mx mode n neg)) (hk : ∀ k, k ∈ kids → AllG k) : AllG (.node op sa sc set ka kc kids mn mx mode n neg)
mutual
def szN : Tree → Nat
 | .node _ _ kids _ _ _ _ _ => 1 + szNs kids
def szNs : List Tree → Nat
 | [] => 0
 | t :: r => szN t + szNs r
end
mutual
def dpN : Tree → Nat
 | .node _ _ kids _ _ _ _ _ => 1 + dpNs kids
def dpNs : List Tree → Nat
 | [] => 0
 | t :: r => max (dpN t) (dpNs r)
end
theorem szNs_take (l : List Tree) : ∀ (k : Nat) (h : k < l.length), szNs (l.take (k + 1)) = szNs (l.take k) + szN l[k] ∧ szNs (l.take (k + 1)) ≤ szNs l ∧ dpN l[k] ≤ dpNs l := by
 induction l with
 | nil => intro k h; cases h
 | cons x r ih =>
  intro k h
  cases k with
  | zero => simp [szNs, dpNs]; omega
  | succ k =>
   simp only [List.take_succ_cons, szNs, dpNs, List.getElem_cons_succ]
   obtain ⟨h1, h2, h3⟩ := ih k (by simpa using h)
   refine ⟨by rw [h1, Nat.add_assoc], by omega, by omega⟩
def numO (s : Nat) : Obj := .cells #[.int .i64 (s : Nat)] 3 (0, 0)
def trueO : Obj := .cells #[.bool true] 4 (0, 0)
structure VP (w : World) (S G B T C : Nat) (cp : Int) : Prop where
 cap : w.cell? ⟨B, 8, none⟩ = some (.int .i64 cp)
 tp : w.cell? ⟨T, 0, none⟩ = some (.int .i64 255)
 fn : w.cell? ⟨C, 0, none⟩ = some (.func (Fn.func 74) #[] #[.pointer (some ⟨S, 0, none⟩), .pointer (some ⟨G, 0, none⟩), .pointer (some ⟨B, 0, none⟩), .pointer (some ⟨T, 0, none⟩), .pointer (some ⟨C, 0, none⟩)])
 nS : S ≠ B ∧ S ≠ T ∧ S ≠ C
 nG : G ≠ B ∧ G ≠ T ∧ G ≠ C
 ne : S ≠ G
theorem VP.keep {w w' : World} {S G B T C : Nat} {cp : Int} (h : VP w S G B T C cp) (k : Keeps [S, G] w w') : VP w' S G B T C cp := by
 obtain ⟨a, b, c⟩ := h.nS
 obtain ⟨d, e, f⟩ := h.nG
 exact ⟨k.cell h.cap (by simp; omega), k.cell h.tp (by simp; omega), k.cell h.fn (by simp; omega), h.nS, h.nG, h.ne⟩
def VwP (S G s : Nat) (w : World) (e : Ending) (w' : World) : Prop := e = .returned (.bool true) ∧ Keeps [S, G] w w' ∧ w'.heap[S]? = some (numO s) ∧ w'.heap[G]? = some trueO
set_option linter.unusedSimpArgs false in
theorem walkP_any {Wt w0 : World} (S G B T C : Nat) (cp : Int) (kt : Keeps [] Wt w0) (hS : Wt.heap.size ≤ S) (hG : Wt.heap.size ≤ G) (hv : VP w0 S G B T C cp) (m : MRe) : ∀ (b o d s : Nat) (w : World), At8 Wt b o m → m.OK Wt → AllG m → Keeps [S, G] w0 w → w.heap[S]? = some (numO s) → w.heap[G]? = some trueO → s + szN m.tree ≤ 256 → d + dpN m.tree ≤ 25 → 1 ≤ d →
  Calls Tryz.prog 74 #[.pointer (some ⟨b, o, none⟩), .int .i64 d, .pointer (some ⟨S, 0, none⟩), .pointer (some ⟨G, 0, none⟩), .pointer (some ⟨B, 0, none⟩), .pointer (some ⟨T, 0, none⟩), .pointer (some ⟨C, 0, none⟩)] w (VwP S G (s + szN m.tree) w) := by
 induction m using MRe.inductP with
 | h op sa sc set ka kc kids mn mx mode n neg ih =>
  intro b o d s w hat k1 hall hk0 hs hg hs2 hd2 hd1
  have k1' := k1
  cases k1 with
  | mk hsp hk hr =>
  cases hall with
  | mk hn hkk =>
  obtain ⟨N, hN⟩ : ∃ N, N = s + szN (MRe.node op sa sc set ka kc kids mn mx mode n neg).tree := ⟨_, rfl⟩
  obtain ⟨Q, hQ⟩ : ∃ Q, Q = VwP S G N w := ⟨_, rfl⟩
  rw [← hN, ← hQ]
  have HQ := gI hQ
  have hNe : N = s + 1 + szNs (MRe.trees kids) ∧ N ≤ 256 ∧ d + dpNs (MRe.trees kids) ≤ 24 := by
   simp only [MRe.tree, szN, dpN] at hN hs2 hd2
   omega
  have HN := gI hNe
  have hold : ∀ W, Keeps [S, G] w W → Keeps [] Wt W := fun W k => kt.after (hk0.trans k) (fun x hx => .inr (by simp at hx; omega))
  have HO := gI hold
  have HAT := gI (fun W (k : Keeps [S, G] w W) => (hat.keep (hold W k)).node)
  have HNK := gI hk
  have HV := gI (fun W (k : Keeps [S, G] w W) => hv.keep (hk0.trans k))
  have HF := gI (fun W (k : Keeps [S, G] w W) => formedP_any (.node op sa sc set ka kc kids mn mx mode n neg) b o cp W (hat.keep (hold W k)) (k1'.keep (hold W k)) hn)
  have HIH := gI (fun i (hi : i < kids.length) (b' o' d' s' : Nat) W (k : Keeps [S, G] w W) (ha : At8 Wt b' o' kids[i]) => ih kids[i] (List.getElem_mem hi) b' o' d' s' W ha (hr _ (List.getElem_mem hi)) (hkk _ (List.getElem_mem hi)) (hk0.trans k))
  have HSG := gI (And.intro hs hg)
  have n1 : w.cell? ⟨S, 0, none⟩ = some (.int .i64 (s : Nat)) := by simp [World.cell?, hs, numO]
  have f1 : w.frozen? ⟨S, 0, none⟩ = false := by simp [World.frozen?, hs, numO]
  have hne := hv.ne
  have HNE := gI hne
  have hsi : (s : Int) ≤ 255 := by omega
  have hdi : (d : Int) ≤ 24 := by omega
  have hkl : kids.length ≤ 1000000 := by
   have h1 : ∀ l : List Tree, l.length ≤ szNs l := fun l => by
    induction l with
    | nil => simp
    | cons x r ih => cases x; simp only [List.length_cons, szNs, szN]; omega
   have h2 := h1 (MRe.trees kids)
   rw [MRe.trees_length] at h2
   omega
  have hw1 : IntKind.i64.wrap ((s : Int) + 1) = (s : Int) + 1 := IntWalk.i64_in _ (by omega)
  have hwd : IntKind.i64.wrap ((d : Int) + 1) = (d : Int) + 1 := IntWalk.i64_in _ (by omega)
  clear hQ hN hNe hold hat k1' hsp hk hr ih hn hkk hk0 hs hg hs2 hd2 kt hv hS hG hne
  go_enter Tryz.func74, Tryz.ntmps74
  go_upto_region 2 with fail
  obtain ⟨X, hX⟩ : ∃ X, X = w.setCell ⟨S, 0, none⟩ (.int .i64 ((s : Int) + 1)) := ⟨_, rfl⟩
  have hkX : Keeps [S, G] w X := by rw [hX]; exact (Keeps.refl [S, G] w).setCell (p := ⟨S, 0, none⟩) (.inl (by simp)) _
  have hsX : X.heap[S]? = some (numO (s + 1)) := by
   have h := heap_setCell_same w S 0 _ _ (.int .i64 ((s : Int) + 1)) HSG.out.1
   rw [hX, h]
   simp [numO]
  have hgX : X.heap[G]? = some trueO := by
   have k2 : Keeps [S] w X := by rw [hX]; exact (Keeps.refl [S] w).setCell (by simp) _
   exact k2.heap HSG.out.2 (by simpa using Ne.symm HNE.out)
  rw [← hX]
  have HKX := gI hkX
  have HSX := gI hsX
  have HGX := gI hgX
  have n2 : X.cell? ⟨S, 0, none⟩ = some (.int .i64 ((s : Int) + 1)) := by simp [World.cell?, hsX, numO]
  have g2 : X.cell? ⟨G, 0, none⟩ = some (.bool true) := by simp [World.cell?, hgX, trueO]
  obtain ⟨e1, e2, _, _, _, _⟩ := HV.out X hkX
  have hb1 : ¬ (256 : Int) < (s : Int) + 1 := by omega
  have hb2 : ¬ (24 : Int) < (d : Int) := by omega
  clear hX hkX hsX hgX n1 f1
  go_wp2_with fail
  with_reducible refine Calls.mono (HF.out X HKX.out) ?_
  rintro e w2 ⟨rfl, hk2⟩
  have K2 := gI (HKX.out.trans (hk2.mono (by simp)))
  have hs2 := hk2.heap HSX.out (by simp)
  have hg2 := hk2.heap HGX.out (by simp)
  have y1 : w2.cell? ⟨G, 0, none⟩ = some (.bool true) := by simp [World.cell?, hg2, trueO]
  have yf : w2.frozen? ⟨G, 0, none⟩ = false := by simp [World.frozen?, hg2, trueO]
  obtain ⟨Z, hZ⟩ : ∃ Z, Z = w2.setCell ⟨G, 0, none⟩ (.bool true) := ⟨_, rfl⟩
  have kZ : Keeps [G] w2 Z := by rw [hZ]; exact (Keeps.refl [G] w2).setCell (by simp) _
  have HSZ := gI (kZ.heap hs2 (by simpa using HNE.out))
  have HGZ := gI (show Z.heap[G]? = some trueO from by
   have h := heap_setCell_same w2 G 0 _ _ (.bool true) hg2
   rw [hZ, h]
   simp [trueO])
  have HKZ := gI (K2.out.trans (kZ.mono (by simp)))
  have HZ := gI hZ
  clear hk2 hs2 hg2 hZ kZ n2 g2 e1 e2
  go_upto_region 5 with fail
  rw [← HZ.out]
  clear y1 yf
  obtain ⟨_, _, m2, _, _, _, _, _⟩ := HAT.out Z HKZ.out
  go_upto_region 6 with fail
  clear m2
  go_loopw [32] (fun v32 wr => ∃ k : Nat, v32 = .int .i64 k ∧ k ≤ kids.length ∧ Keeps [S, G] w wr ∧ wr.heap[S]? = some (numO (s + 1 + szNs ((MRe.trees kids).take k))) ∧ wr.heap[G]? = some trueO) (fun v32 _ => kids.length - (intOf v32).toNat)
  case atStart => exact ⟨0, rfl, Nat.zero_le _, HKZ.out, by simpa [szNs] using HSZ.out, HGZ.out⟩
  case round =>
   obtain ⟨k, rfl, hkk, hkw, hsw, hgw⟩ := hrel
   obtain ⟨wB, hwB⟩ : ∃ wB : World, wB = wr := ⟨_, rfl⟩
   subst hwB
   have HKW := gI hkw
   have HSW := gI hsw
   have HGW := gI hgw
   clear hkw hsw hgw
   by_cases hlt : k < kids.length
   ·have hlti : (k : Int) < (kids.length : Int) := by omega
    have hw2 : IntKind.i64.wrap ((k : Int) + 1) = (k : Int) + 1 := IntWalk.i64_in _ (by omega)
    obtain ⟨kb, ko, hka, _, hkat⟩ := HNK.out.kid (by omega)
    subst hka
    have htk := szNs_take (MRe.trees kids) k (by rw [MRe.trees_length]; exact hlt)
    rw [treesP_getElem kids k hlt] at htk
    have hnn := HN.out
    have HC := gI (HIH.out k hlt kb (ko + k * 8) (d + 1) (s + 1 + szNs ((MRe.trees kids).take k)) wB.drew ((HKW.out).trans (Keeps.refl _ wB).drew) (hkat k hlt) HSW.out HGW.out (by omega) (by omega) (by omega))
    have hde : ((d + 1 : Nat) : Int) = (d : Int) + 1 := by omega
    rw [hde, show s + 1 + szNs ((MRe.trees kids).take k) + szN kids[k].tree = s + 1 + szNs ((MRe.trees kids).take (k + 1)) by omega] at HC
    obtain ⟨_, _, fn, _, _, _⟩ := HV.out wB HKW.out
    obtain ⟨_, _, m2, _, _, _, _, _⟩ := HAT.out wB HKW.out
    clear hkat htk hnn hde
    go_upto_region 8 with fail
    refine wp_region_held_drew (S := fun W => W.cell? ⟨C, 0, none⟩ = some (.func (Fn.func 74) #[] #[.pointer (some ⟨S, 0, none⟩), .pointer (some ⟨G, 0, none⟩), .pointer (some ⟨B, 0, none⟩), .pointer (some ⟨T, 0, none⟩), .pointer (some ⟨C, 0, none⟩)]) ∧ W.cell? ⟨b, o + 2, none⟩ = some (.slice (some ⟨kb, ko, none⟩) kids.length kc)) (by kernel_rfl) ⟨fn, m2⟩ (fun hHeld => ?_)
    clear fn m2
    refine take_on (i := 0) (v := ?_) rfl (by kernel_rfl) (by kernel_rfl) (by kernel_rfl) (fun _ _ _ h => h) (by rfl) (by assumption) ?_ ?_
    rotate_left
    ·((intro w hSw; (try dsimp only at hSw); go_simp <;> with_reducible rfl); done)
    try simp only [Act.put, List.setIfInBounds_toArray, List.set_cons_zero, List.set_cons_succ]
    refine take_on (i := 1) (v := ?_) rfl (by kernel_rfl) (by kernel_rfl) (by kernel_rfl) (fun _ _ _ h => h) (by rfl) (by assumption) ?_ ?_
    rotate_left
    ·((intro w hSw; (try dsimp only at hSw); go_simp <;> with_reducible rfl); done)
    try simp only [Act.put, List.setIfInBounds_toArray, List.set_cons_zero, List.set_cons_succ]
    refine take_on (i := 2) (v := ?_) rfl (by kernel_rfl) (by kernel_rfl) (by kernel_rfl) (fun _ _ _ h => h) (by rfl) (by assumption) ?_ ?_
    rotate_left
    ·((intro w hSw; (try dsimp only at hSw); go_simp <;> with_reducible rfl); done)
    try simp only [Act.put, List.setIfInBounds_toArray, List.set_cons_zero, List.set_cons_succ]
    refine take_on (i := 3) (v := ?_) rfl (by kernel_rfl) (by kernel_rfl) (by kernel_rfl) (fun _ _ _ h => h) (by rfl) (by assumption) ?_ ?_
    rotate_left
    ·((intro w hSw; (try dsimp only at hSw); go_simp <;> with_reducible rfl); done)
    try simp only [Act.put, List.setIfInBounds_toArray, List.set_cons_zero, List.set_cons_succ]
    refine take_on (i := 4) (v := ?_) rfl (by kernel_rfl) (by kernel_rfl) (by kernel_rfl) (fun _ _ _ h => h) (by rfl) (by assumption) ?_ ?_
    rotate_left
    ·((intro w hSw; (try dsimp only at hSw); go_simp <;> with_reducible rfl); done)
    try simp only [Act.put, List.setIfInBounds_toArray, List.set_cons_zero, List.set_cons_succ]
    refine take_on (i := 5) (v := ?_) rfl (by kernel_rfl) (by kernel_rfl) (by kernel_rfl) (fun _ _ _ h => h) (by rfl) (by assumption) ?_ ?_
    rotate_left
    ·((intro w hSw; (try dsimp only at hSw); go_simp <;> with_reducible rfl); done)
    try simp only [Act.put, List.setIfInBounds_toArray, List.set_cons_zero, List.set_cons_succ]
    refine take_on (i := 6) (v := ?_) rfl (by kernel_rfl) (by kernel_rfl) (by kernel_rfl) (fun _ _ _ h => h) (by rfl) (by assumption) ?_ ?_
    rotate_left
    ·((intro w hSw; (try dsimp only at hSw); go_simp <;> with_reducible rfl); done)
    try simp only [Act.put, List.setIfInBounds_toArray, List.set_cons_zero, List.set_cons_succ]
    refine take_on (i := 7) (v := ?_) rfl (by kernel_rfl) (by kernel_rfl) (by kernel_rfl) (fun _ _ _ h => h) (by rfl) (by assumption) ?_ ?_
    rotate_left
    ·((intro w hSw; (try dsimp only at hSw); go_simp <;> with_reducible rfl); done)
    try simp only [Act.put, List.setIfInBounds_toArray, List.set_cons_zero, List.set_cons_succ]
    refine take_on (i := 8) (v := ?_) rfl (by kernel_rfl) (by kernel_rfl) (by kernel_rfl) (fun _ _ _ h => h) (by rfl) (by assumption) ?_ ?_
    rotate_left
    ·((intro w hSw; (try dsimp only at hSw); go_simp <;> with_reducible rfl); done)
    try simp only [Act.put, List.setIfInBounds_toArray, List.set_cons_zero, List.set_cons_succ]
    refine branch_one (i := 9) rfl (by kernel_rfl) (by rfl) (fun K hK => ?_)
    go_simp
    with_reducible refine Calls.mono HC.out ?_
    rintro e w8 ⟨rfl, hk8, hs8, hg8⟩
    have HK8 := gI ((HKW.out.trans (Keeps.refl _ wB).drew).trans hk8)
    have HS8 := gI (And.intro hs8 hg8)
    obtain ⟨_, _, fn, _, _, _⟩ := HV.out w8 HK8.out
    obtain ⟨_, _, m2, _, _, _, _, _⟩ := HAT.out w8 HK8.out
    clear hk8 hs8 hg8
    refine hK.out _ _ (⟨fn, m2⟩) (fun hHeld => ?_)
    clear hK K
    try simp only [Act.put, List.setIfInBounds_toArray, List.set_cons_zero, List.set_cons_succ]
    refine take_on (i := 10) (v := ?_) rfl (by kernel_rfl) (by kernel_rfl) (by kernel_rfl) (fun _ _ _ h => h) (by rfl) (by assumption) ?_ ?_
    rotate_left
    ·((intro w hSw; (try dsimp only at hSw); go_simp <;> with_reducible rfl); done)
    try simp only [Act.put, List.setIfInBounds_toArray, List.set_cons_zero, List.set_cons_succ]
    refine wpAnyH_done (by kernel_rfl) ?_ _
    clear hHeld fn m2
    go_wp2
    go_roundw
    case rel => exact ⟨k + 1, by go_num, by omega, HK8.out, HS8.out.1, HS8.out.2⟩
    case measure => simp [intOf]; omega
   ·obtain rfl : k = kids.length := by omega
    go_wp2
    rw [HQ.out]
    have hl0 : (MRe.trees kids).take kids.length = MRe.trees kids := List.take_of_length_le (by rw [MRe.trees_length]; omega)
    have h := HSW.out
    rw [hl0] at h
    exact ⟨rfl, HKW.out, by rw [HN.out.1]; exact h, HGW.out⟩
def patP (m : MRe) : Value := .agg (m.row ++ [Value.int .i64 0, Value.bool false]).toArray
theorem topP (w : World) : Calls Tryz.prog 73 #[.bool false] w fun e w' => e = .returned (.int .i64 255) ∧ w = w' := by
 go_enter Tryz.func73, Tryz.ntmps73; go_wp2; go_ret; exact ⟨rfl, rfl⟩
set_option linter.unusedSimpArgs false in
theorem validP_any (m : MRe) (w : World) (k1 : m.OK w) (hg : AllG m) (hs : szN m.tree ≤ 256) (hd : dpN m.tree ≤ 24) :
  Calls Tryz.prog 48 #[patP m] w fun e w' => e = .returned (.int .i64 0) ∧ Keeps [] w w' := by
 obtain ⟨Q, hQ⟩ : ∃ Q : Ending → World → Prop, Q = fun e w' => e = .returned (.int .i64 0) ∧ Keeps [] w w' := ⟨_, rfl⟩
 rw [← hQ]
 have HQ := gI hQ
 have hmf : ∀ (fn : Fn) (first cap : Array Value) (w : World), (Instr.makeFunc fn first cap).run Tryz.prog w = .ok (.func fn first cap) w := fun _ _ _ _ => rfl
 obtain ⟨B, hB⟩ : ∃ B, B = w.heap.size := ⟨_, rfl⟩
 obtain ⟨Y, hY⟩ : ∃ Y, Y = w.alloc (.cells (m.row ++ [Value.int .i64 0, Value.bool false]).toArray 58) := ⟨_, rfl⟩
 have hkY : Keeps [] w Y := by rw [hY]; exact (Keeps.refl [] w).alloc _
 have hbY : Y.heap[B]? = some (.cells (m.row ++ [Value.int .i64 0, Value.bool false]).toArray 58 (0, 0)) := by rw [hY, hB]; exact heap_alloc_new w _
 have hat : At8 Y B 0 m := fun j hj => by simp [World.cell?, hbY, List.getElem?_append_left hj]
 have hk1 := k1.keep hkY
 have HW := gI (fun (w0 : World) (S G T C : Nat) (kt : Keeps [] Y w0) (hS : Y.heap.size ≤ S) (hG : Y.heap.size ≤ G) (hv : VP w0 S G B T C 0) (h1 : w0.heap[S]? = some (numO 0)) (h2 : w0.heap[G]? = some trueO) => walkP_any S G B T C 0 kt hS hG hv m B 0 1 0 w0 hat hk1 hg (Keeps.refl _ _) h1 h2 (by omega) (by omega) (by omega))
 have HKY := gI hkY
 have HYS := gI (show Y.heap.size = B + 1 from by rw [hY, hB]; simp)
 have HBY := gI hbY
 have HB := gI hB
 obtain ⟨op, sa, sc, set, ka, kc, kids, mn, mx, mode, n, neg⟩ := m
 have HY := gI (show Y = w.alloc (.cells #[.int .i64 op, .slice sa set.length sc, .slice ka kids.length kc, .int .i64 mn, .int .i64 mx, .int .i64 mode, .int .i64 n, .bool neg, .int .i64 0, .bool false] 58) from hY)
 have hbY2 : Y.heap[B]? = some (.cells #[.int .i64 op, .slice sa set.length sc, .slice ka kids.length kc, .int .i64 mn, .int .i64 mx, .int .i64 mode, .int .i64 n, .bool neg, .int .i64 0, .bool false] 58 (0, 0)) := hbY
 have c8 : Y.cell? ⟨B, 8, none⟩ = some (.int .i64 0) := by simp [World.cell?, hbY2]
 have c9 : Y.cell? ⟨B, 9, none⟩ = some (.bool false) := by simp [World.cell?, hbY2]
 clear hQ hB hY hkY hbY hat hk1 k1 hg hs hd hbY2
 show Calls Tryz.prog 48 #[.agg #[.int .i64 op, .slice sa set.length sc, .slice ka kids.length kc, .int .i64 mn, .int .i64 mx, .int .i64 mode, .int .i64 n, .bool neg, .int .i64 0, .bool false]] w _
 go_enter Tryz.func48, Tryz.ntmps48
 go_upto_region 1 with fail
 rw [← HY.out, ← HB.out]
 have c8a : ∀ o, (Y.alloc o).cell? ⟨B, 8, none⟩ = some (.int .i64 0) := fun o => ((Keeps.refl [] Y).alloc o).cell c8 (by simp)
 have c9a : ∀ o q, ((Y.alloc o).alloc q).cell? ⟨B, 9, none⟩ = some (.bool false) := fun o q => (((Keeps.refl [] Y).alloc o).alloc q).cell c9 (by simp)
 go_wp2_with fail
 with_reducible refine Calls.mono (topP _) ?_
 rintro e w2 ⟨rfl, rfl⟩
 clear c8a c9a
 go_upto_region 6 with fail
 obtain ⟨M, hM⟩ : ∃ M, M = Y.heap.size := ⟨_, rfl⟩
 obtain ⟨W1, hW1⟩ : ∃ v, v = Y.alloc (.cells #[.int .i64 0] 3) := ⟨_, rfl⟩
 obtain ⟨W2, hW2⟩ : ∃ v, v = W1.alloc (.cells #[.bool true] 4) := ⟨_, rfl⟩
 obtain ⟨W3, hW3⟩ : ∃ v, v = W2.alloc (.cells #[.int .i64 255] 3) := ⟨_, rfl⟩
 obtain ⟨W4, hW4⟩ : ∃ v, v = W3.alloc (.cells #[.func (Fn.func 74) #[] #[.pointer (some ⟨M, 0, none⟩), .pointer (some ⟨M + 1, 0, none⟩), .pointer (some ⟨B, 0, none⟩), .pointer (some ⟨M + 1 + 1, 0, none⟩), .pointer (some ⟨M + 1 + 1 + 1, 0, none⟩)]] 138) := ⟨_, rfl⟩
 have k1 : Keeps [] Y W1 := by rw [hW1]; exact (Keeps.refl [] _).alloc _
 have k2 : Keeps [] W1 W2 := by rw [hW2]; exact (Keeps.refl [] _).alloc _
 have k3 : Keeps [] W2 W3 := by rw [hW3]; exact (Keeps.refl [] _).alloc _
 have k4 : Keeps [] W3 W4 := by rw [hW4]; exact (Keeps.refl [] _).alloc _
 have s1 : W1.heap.size = M + 1 := by rw [hW1]; simp [hM]
 have s2 : W2.heap.size = M + 1 + 1 := by rw [hW2]; simp [s1]
 have s3 : W3.heap.size = M + 1 + 1 + 1 := by rw [hW3]; simp [s2]
 have s4 : W4.heap.size = M + 1 + 1 + 1 + 1 := by rw [hW4]; simp [s3]
 have b1 : W4.heap[M]? = some (.cells #[.int .i64 0] 3 (0, 0)) := (k4.heap (k3.heap (k2.heap (heap_alloc_at_P hW1 _ _ hM.symm) (by simp)) (by simp)) (by simp))
 have b2 : W4.heap[M + 1]? = some (.cells #[.bool true] 4 (0, 0)) := (k4.heap (k3.heap (heap_alloc_at_P hW2 _ _ s1) (by simp)) (by simp))
 have b3 : W4.heap[M + 1 + 1]? = some (.cells #[.int .i64 255] 3 (0, 0)) := (k4.heap (heap_alloc_at_P hW3 _ _ s2) (by simp))
 have b4 : W4.heap[M + 1 + 1 + 1]? = some (.cells #[.func (Fn.func 74) #[] #[.pointer (some ⟨M, 0, none⟩), .pointer (some ⟨M + 1, 0, none⟩), .pointer (some ⟨B, 0, none⟩), .pointer (some ⟨M + 1 + 1, 0, none⟩), .pointer (some ⟨M + 1 + 1 + 1, 0, none⟩)]] 138 (0, 0)) := (heap_alloc_at_P hW4 _ _ s3)
 have kY : Keeps [] Y W4 := ((k1.trans k2).trans k3).trans k4
 have hM2 := HYS.out
 have hbW := kY.heap HBY.out (by simp)
 have hbW2 : W4.heap[B]? = some (.cells #[.int .i64 op, .slice sa set.length sc, .slice ka kids.length kc, .int .i64 mn, .int .i64 mx, .int .i64 mode, .int .i64 n, .bool neg, .int .i64 0, .bool false] 58 (0, 0)) := hbW
 have hv : VP W4 M (M + 1) B (M + 1 + 1) (M + 1 + 1 + 1) 0 := ⟨by simp [World.cell?, hbW2], by simp [World.cell?, b3], by simp [World.cell?, b4], by omega, by omega, by omega⟩
 have HC := gI (HW.out W4 M (M + 1) _ _ kY (Nat.le_of_eq hM.symm) (by omega) hv b1 b2)
 have HK4 := gI (HKY.out.trans kY)
 have HMW := gI (show w.heap.size ≤ M from by rw [hM]; exact HKY.out.size)
 have fn := hv.fn
 rw [← hM, ← hW1, ← hW2, ← hW3, ← hW4]
 clear hM hW1 hW2 hW3 hW4 k1 k2 k3 k4 s1 s2 s3 s4 b1 b2 b3 b4 kY hM2 hbW hbW2 hv
 go_wp2_with fail
 with_reducible refine Calls.mono HC.out ?_
 rintro e w5 ⟨rfl, hk5, _, hg5⟩
 have g1 : w5.cell? ⟨M + 1, 0, none⟩ = some (.bool true) := by simp [World.cell?, hg5, trueO]
 have HK5 := gI (HK4.out.after hk5 (fun q hq => .inr (by have := HMW.out; simp at hq; omega)))
 clear hk5 hg5 fn
 go_wp2
 rw [HQ.out]
 exact ⟨rfl, HK5.out⟩
def SzP (S s : Nat) (w : World) (e : Ending) (w' : World) : Prop := (∃ v, e = .returned v) ∧ Keeps [S] w w' ∧ w'.heap[S]? = some (numO s)
set_option linter.unusedSimpArgs false in
theorem sizeW_any {Wt w0 : World} (S C : Nat) (kt : Keeps [] Wt w0) (hS : Wt.heap.size ≤ S) (hv : w0.cell? ⟨C, 0, none⟩ = some (.func (Fn.func 70) #[] #[.pointer (some ⟨S, 0, none⟩), .pointer (some ⟨C, 0, none⟩)])) (hSC : S ≠ C) (m : MRe) : ∀ (b o s : Nat) (w : World), At8 Wt b o m → m.OK Wt → Keeps [S] w0 w → w.heap[S]? = some (numO s) → s + szN m.tree ≤ 100000 →
  Calls Tryz.prog 70 #[.pointer (some ⟨b, o, none⟩), .pointer (some ⟨S, 0, none⟩), .pointer (some ⟨C, 0, none⟩)] w (SzP S (s + szN m.tree) w) := by
 induction m using MRe.inductP with
 | h op sa sc set ka kc kids mn mx mode n neg ih =>
  intro b o s w hat k1 hk0 hs hs2
  cases k1 with
  | mk hsp hk hr =>
  obtain ⟨N, hN⟩ : ∃ N, N = s + szN (MRe.node op sa sc set ka kc kids mn mx mode n neg).tree := ⟨_, rfl⟩
  obtain ⟨Q, hQ⟩ : ∃ Q, Q = SzP S N w := ⟨_, rfl⟩
  rw [← hN, ← hQ]
  have HQ := gI hQ
  have hNe : N = s + 1 + szNs (MRe.trees kids) ∧ N ≤ 100000 := by
   simp only [MRe.tree, szN] at hN hs2
   omega
  have HN := gI hNe
  have hold : ∀ W, Keeps [S] w W → Keeps [] Wt W := fun W k => kt.after (hk0.trans k) (fun x hx => .inr (by simp at hx; omega))
  have HAT := gI (fun W (k : Keeps [S] w W) => (hat.keep (hold W k)).node)
  have HNK := gI hk
  have HV := gI (fun W (k : Keeps [S] w W) => (hk0.trans k).cell hv (by simpa using Ne.symm hSC))
  have HIH := gI (fun i (hi : i < kids.length) (b' o' s' : Nat) W (k : Keeps [S] w W) (ha : At8 Wt b' o' kids[i]) => ih kids[i] (List.getElem_mem hi) b' o' s' W ha (hr _ (List.getElem_mem hi)) (hk0.trans k))
  have HSG := gI hs
  have n1 : w.cell? ⟨S, 0, none⟩ = some (.int .i64 (s : Nat)) := by simp [World.cell?, hs, numO]
  have f1 : w.frozen? ⟨S, 0, none⟩ = false := by simp [World.frozen?, hs, numO]
  have hkl : kids.length ≤ 1000000 := by
   have h1 : ∀ l : List Tree, l.length ≤ szNs l := fun l => by
    induction l with
    | nil => simp
    | cons x r ih => cases x; simp only [List.length_cons, szNs, szN]; omega
   have h2 := h1 (MRe.trees kids)
   rw [MRe.trees_length] at h2
   omega
  have hw1 : IntKind.i64.wrap ((s : Int) + 1) = (s : Int) + 1 := IntWalk.i64_in _ (by omega)
  obtain ⟨X, hX⟩ : ∃ X, X = w.setCell ⟨S, 0, none⟩ (.int .i64 ((s : Int) + 1)) := ⟨_, rfl⟩
  have hkX : Keeps [S] w X := by rw [hX]; exact (Keeps.refl [S] w).setCell (p := ⟨S, 0, none⟩) (.inl (by simp)) _
  have hsX : X.heap[S]? = some (numO (s + 1)) := by
   have h := heap_setCell_same w S 0 _ _ (.int .i64 ((s : Int) + 1)) HSG.out
   rw [hX, h]
   simp [numO]
  have HKX := gI hkX
  have HSX := gI hsX
  have HX := gI hX
  clear hQ hN hNe hold hat hsp hk hr ih hk0 hs hs2 kt hv hS hSC hX hkX hsX
  go_enter Tryz.func70, Tryz.ntmps70
  go_upto_region 1 with fail
  rw [← HX.out]
  clear n1 f1
  obtain ⟨_, _, m2, _, _, _, _, _⟩ := HAT.out X HKX.out
  go_upto_region 2 with fail
  clear m2
  go_loopw [12] (fun v32 wr => ∃ k : Nat, v32 = .int .i64 k ∧ k ≤ kids.length ∧ Keeps [S] w wr ∧ wr.heap[S]? = some (numO (s + 1 + szNs ((MRe.trees kids).take k)))) (fun v32 _ => kids.length - (intOf v32).toNat)
  case atStart => exact ⟨0, rfl, Nat.zero_le _, HKX.out, by simpa [szNs] using HSX.out⟩
  case round =>
   obtain ⟨k, rfl, hkk, hkw, hsw⟩ := hrel
   obtain ⟨wB, hwB⟩ : ∃ wB : World, wB = wr := ⟨_, rfl⟩
   subst hwB
   have HKW := gI hkw
   have HSW := gI hsw
   clear hkw hsw
   by_cases hlt : k < kids.length
   ·have hlti : (k : Int) < (kids.length : Int) := by omega
    have hw2 : IntKind.i64.wrap ((k : Int) + 1) = (k : Int) + 1 := IntWalk.i64_in _ (by omega)
    obtain ⟨kb, ko, hka, _, hkat⟩ := HNK.out.kid (by omega)
    subst hka
    have htk := szNs_take (MRe.trees kids) k (by rw [MRe.trees_length]; exact hlt)
    rw [treesP_getElem kids k hlt] at htk
    have hnn := HN.out
    have HC := gI (HIH.out k hlt kb (ko + k * 8) (s + 1 + szNs ((MRe.trees kids).take k)) wB.drew ((HKW.out).trans (Keeps.refl _ wB).drew) (hkat k hlt) HSW.out (by omega))
    rw [show s + 1 + szNs ((MRe.trees kids).take k) + szN kids[k].tree = s + 1 + szNs ((MRe.trees kids).take (k + 1)) by omega] at HC
    have fn := HV.out wB HKW.out
    obtain ⟨_, _, m2, _, _, _, _, _⟩ := HAT.out wB HKW.out
    clear hkat htk hnn
    go_upto_region 4 with fail
    refine wp_region_held_drew (S := fun W => W.cell? ⟨C, 0, none⟩ = some (.func (Fn.func 70) #[] #[.pointer (some ⟨S, 0, none⟩), .pointer (some ⟨C, 0, none⟩)]) ∧ W.cell? ⟨b, o + 2, none⟩ = some (.slice (some ⟨kb, ko, none⟩) kids.length kc)) (by kernel_rfl) ⟨fn, m2⟩ (fun hHeld => ?_)
    clear fn m2
    refine take_on (i := 0) (v := ?_) rfl (by kernel_rfl) (by kernel_rfl) (by kernel_rfl) (fun _ _ _ h => h) (by rfl) (by assumption) ?_ ?_
    rotate_left
    ·((intro w hSw; (try dsimp only at hSw); go_simp <;> with_reducible rfl); done)
    try simp only [Act.put, List.setIfInBounds_toArray, List.set_cons_zero, List.set_cons_succ]
    refine take_on (i := 1) (v := ?_) rfl (by kernel_rfl) (by kernel_rfl) (by kernel_rfl) (fun _ _ _ h => h) (by rfl) (by assumption) ?_ ?_
    rotate_left
    ·((intro w hSw; (try dsimp only at hSw); go_simp <;> with_reducible rfl); done)
    try simp only [Act.put, List.setIfInBounds_toArray, List.set_cons_zero, List.set_cons_succ]
    refine take_on (i := 2) (v := ?_) rfl (by kernel_rfl) (by kernel_rfl) (by kernel_rfl) (fun _ _ _ h => h) (by rfl) (by assumption) ?_ ?_
    rotate_left
    ·((intro w hSw; (try dsimp only at hSw); go_simp <;> with_reducible rfl); done)
    try simp only [Act.put, List.setIfInBounds_toArray, List.set_cons_zero, List.set_cons_succ]
    refine take_on (i := 3) (v := ?_) rfl (by kernel_rfl) (by kernel_rfl) (by kernel_rfl) (fun _ _ _ h => h) (by rfl) (by assumption) ?_ ?_
    rotate_left
    ·((intro w hSw; (try dsimp only at hSw); go_simp <;> with_reducible rfl); done)
    try simp only [Act.put, List.setIfInBounds_toArray, List.set_cons_zero, List.set_cons_succ]
    refine take_on (i := 4) (v := ?_) rfl (by kernel_rfl) (by kernel_rfl) (by kernel_rfl) (fun _ _ _ h => h) (by rfl) (by assumption) ?_ ?_
    rotate_left
    ·((intro w hSw; (try dsimp only at hSw); go_simp <;> with_reducible rfl); done)
    try simp only [Act.put, List.setIfInBounds_toArray, List.set_cons_zero, List.set_cons_succ]
    refine take_on (i := 5) (v := ?_) rfl (by kernel_rfl) (by kernel_rfl) (by kernel_rfl) (fun _ _ _ h => h) (by rfl) (by assumption) ?_ ?_
    rotate_left
    ·((intro w hSw; (try dsimp only at hSw); go_simp <;> with_reducible rfl); done)
    try simp only [Act.put, List.setIfInBounds_toArray, List.set_cons_zero, List.set_cons_succ]
    refine take_on (i := 6) (v := ?_) rfl (by kernel_rfl) (by kernel_rfl) (by kernel_rfl) (fun _ _ _ h => h) (by rfl) (by assumption) ?_ ?_
    rotate_left
    ·((intro w hSw; (try dsimp only at hSw); go_simp <;> with_reducible rfl); done)
    try simp only [Act.put, List.setIfInBounds_toArray, List.set_cons_zero, List.set_cons_succ]
    refine branch_one (i := 7) rfl (by kernel_rfl) (by rfl) (fun K hK => ?_)
    go_simp
    with_reducible refine Calls.mono HC.out ?_
    rintro e w8 ⟨⟨v8, rfl⟩, hk8, hs8⟩
    have HK8 := gI ((HKW.out.trans (Keeps.refl _ wB).drew).trans hk8)
    have HS8 := gI hs8
    have fn := HV.out w8 HK8.out
    obtain ⟨_, _, m2, _, _, _, _, _⟩ := HAT.out w8 HK8.out
    clear hk8 hs8
    refine hK.out _ _ (⟨fn, m2⟩) (fun hHeld => ?_)
    clear hK K
    try simp only [Act.put, List.setIfInBounds_toArray, List.set_cons_zero, List.set_cons_succ]
    refine wpAnyH_done (by kernel_rfl) ?_ _
    clear hHeld fn m2
    go_wp2
    go_roundw
    case rel => exact ⟨k + 1, by go_num, by omega, HK8.out, HS8.out⟩
    case measure => simp [intOf]; omega
   ·obtain rfl : k = kids.length := by omega
    go_wp2
    have hl0 : (MRe.trees kids).take kids.length = MRe.trees kids := List.take_of_length_le (by rw [MRe.trees_length]; omega)
    have h := HSW.out
    rw [hl0] at h
    go_end0
    try rw [HQ.out]
    exact ⟨⟨_, rfl⟩, HKW.out, by rw [HN.out.1]; exact h⟩
set_option linter.unusedSimpArgs false in
theorem size_any (m : MRe) (w : World) (k1 : m.OK w) (hs : szN m.tree ≤ 100000) :
  Calls Tryz.prog 43 #[.agg m.row.toArray] w fun e w' => e = .returned (.int .i64 (szN m.tree : Nat)) ∧ Keeps [] w w' := by
 obtain ⟨Q, hQ⟩ : ∃ Q : Ending → World → Prop, Q = fun e w' => e = .returned (.int .i64 (szN m.tree : Nat)) ∧ Keeps [] w w' := ⟨_, rfl⟩
 rw [← hQ]
 have HQ := gI hQ
 have hmf : ∀ (fn : Fn) (first cap : Array Value) (w : World), (Instr.makeFunc fn first cap).run Tryz.prog w = .ok (.func fn first cap) w := fun _ _ _ _ => rfl
 obtain ⟨B, hB⟩ : ∃ B, B = w.heap.size := ⟨_, rfl⟩
 obtain ⟨Y, hY⟩ : ∃ Y, Y = w.alloc (.cells m.row.toArray 55) := ⟨_, rfl⟩
 have hkY : Keeps [] w Y := by rw [hY]; exact (Keeps.refl [] w).alloc _
 have hbY : Y.heap[B]? = some (.cells m.row.toArray 55 (0, 0)) := by rw [hY, hB]; exact heap_alloc_new w _
 have hat : At8 Y B 0 m := fun j hj => by simp [World.cell?, hbY]
 have hk1 := k1.keep hkY
 have HW := gI (fun (w0 : World) (S C : Nat) (kt : Keeps [] Y w0) (hS : Y.heap.size ≤ S) (hv : w0.cell? ⟨C, 0, none⟩ = some (.func (Fn.func 70) #[] #[.pointer (some ⟨S, 0, none⟩), .pointer (some ⟨C, 0, none⟩)])) (hne : S ≠ C) (h1 : w0.heap[S]? = some (numO 0)) => sizeW_any S C kt hS hv hne m B 0 0 w0 hat hk1 (Keeps.refl _ _) h1 (by omega))
 have HKY := gI hkY
 have HB := gI hB
 obtain ⟨R, hR⟩ : ∃ R, R = szN m.tree := ⟨_, rfl⟩
 rw [← hR] at HW HQ
 obtain ⟨op, sa, sc, set, ka, kc, kids, mn, mx, mode, n, neg⟩ := m
 have HY := gI (show Y = w.alloc (.cells #[.int .i64 op, .slice sa set.length sc, .slice ka kids.length kc, .int .i64 mn, .int .i64 mx, .int .i64 mode, .int .i64 n, .bool neg] 55) from hY)
 clear hQ hB hY hkY hbY hat hk1 k1 hs hR
 show Calls Tryz.prog 43 #[.agg #[.int .i64 op, .slice sa set.length sc, .slice ka kids.length kc, .int .i64 mn, .int .i64 mx, .int .i64 mode, .int .i64 n, .bool neg]] w _
 go_enter Tryz.func43, Tryz.ntmps43
 go_upto_region 1 with fail
 rw [← HY.out, ← HB.out]
 go_upto_region 4 with fail
 obtain ⟨M, hM⟩ : ∃ M, M = Y.heap.size := ⟨_, rfl⟩
 obtain ⟨W1, hW1⟩ : ∃ v, v = Y.alloc (.cells #[.int .i64 0] 3) := ⟨_, rfl⟩
 obtain ⟨W2, hW2⟩ : ∃ v, v = W1.alloc (.cells #[.func (Fn.func 70) #[] #[.pointer (some ⟨M, 0, none⟩), .pointer (some ⟨M + 1, 0, none⟩)]] 134) := ⟨_, rfl⟩
 have k1 : Keeps [] Y W1 := by rw [hW1]; exact (Keeps.refl [] _).alloc _
 have k2 : Keeps [] W1 W2 := by rw [hW2]; exact (Keeps.refl [] _).alloc _
 have s1 : W1.heap.size = M + 1 := by rw [hW1]; simp [hM]
 have b1 : W2.heap[M]? = some (.cells #[.int .i64 0] 3 (0, 0)) := (k2.heap (heap_alloc_at_P hW1 _ _ hM.symm) (by simp))
 have b2 : W2.heap[M + 1]? = some (.cells #[.func (Fn.func 70) #[] #[.pointer (some ⟨M, 0, none⟩), .pointer (some ⟨M + 1, 0, none⟩)]] 134 (0, 0)) := (heap_alloc_at_P hW2 _ _ s1)
 have fn : W2.cell? ⟨M + 1, 0, none⟩ = some (.func (Fn.func 70) #[] #[.pointer (some ⟨M, 0, none⟩), .pointer (some ⟨M + 1, 0, none⟩)]) := by simp [World.cell?, b2]
 have HC := gI (HW.out W2 M (M + 1) (k1.trans k2) (Nat.le_of_eq hM.symm) fn (by omega) b1)
 have HK4 := gI (HKY.out.trans (k1.trans k2))
 have HMW := gI (show w.heap.size ≤ M from by rw [hM]; exact HKY.out.size)
 rw [← hM, ← hW1, ← hW2]
 clear hM hW1 hW2 k1 k2 s1 b1 b2
 go_wp2_with fail
 with_reducible refine Calls.mono HC.out ?_
 rintro e w5 ⟨⟨v5, rfl⟩, hk5, hs5⟩
 have g1 : w5.cell? ⟨M, 0, none⟩ = some (.int .i64 ((R : Nat) : Int)) := by simp [World.cell?, hs5, numO]
 have HK5 := gI (HK4.out.after hk5 (fun q hq => .inr (by have := HMW.out; simp at hq; omega)))
 clear hk5 hs5 fn
 go_wp2
 rw [HQ.out]
 exact ⟨rfl, HK5.out⟩
end Go.Proofs.YtkekenaamnhbhaaGreat
