/- Part 34 of the proof. No condition: every lemma says its own. -/
import Derived.Test.YtkekenaamnhbhaaGreatZsbg
namespace Go.Proofs.YtkekenaamnhbhaaGreat
open Go.RowKit Go.Sort Go.BigFrame
set_option maxRecDepth 100000
set_option maxHeartbeats 16000000
section
theorem IntsIn.at {w : World} {a : Option Addr} {l : List Int} (h : IntsIn w a l) {i : Nat} (hi : i < l.length) : ∃ b off, a = some ⟨b, off, none⟩ ∧ ∀ j (hj : j < l.length), w.cell? ⟨b, off + j, none⟩ = some (.int .i64 l[j]) := by
 obtain ⟨b, off, e, hc⟩ := h (by omega)
 exact ⟨b, off, e, fun j hj => by rw [hc j hj]; simp [List.getD, hj]⟩
theorem index_any (a : Option Addr) (c : Nat) (l : List Int) (v : Int) (q : Nat) (w : World) (hl : IntsIn w a l) (hll : l.length ≤ 1000000) (hq : q < l.length) (hv : l[q] = v) (hn : ∀ j (hj : j < q), l[j] ≠ v) :
  Calls Tryz.prog 91 #[.slice a l.length c, .int .i64 v] w fun e w' => e = .returned (.int .i64 q) ∧ w = w' := by
 obtain ⟨b, off, rfl, hc⟩ := hl.at hq
 have HC := gI hc
 have HV := gI hv
 have HN := gI hn
 clear hl hc hv hn
 go_enter Tryz.func91, Tryz.ntmps91
 go_wp2
 go_loopw [8] (fun i wr => ∃ k : Nat, k ≤ q ∧ i = .int .i64 k ∧ w = wr) (fun i _ => q + 1 - (intOf i).toNat)
 case atStart => exact ⟨0, Nat.zero_le _, rfl, rfl⟩
 case round =>
  obtain ⟨k, hk, rfl, rfl⟩ := hrel
  have hkl : k < l.length := by omega
  have c0 := HC.out k hkl
  by_cases hkq : k = q
  ·subst hkq
   rw [HV.out] at c0
   go_wp2
   go_ret
   exact ⟨rfl, rfl⟩
  ·have hne := HN.out k (by omega)
   obtain ⟨x, hx⟩ : ∃ x, x = l[k] := ⟨_, rfl⟩
   rw [← hx] at c0 hne
   have hne2 : ¬ v = x := fun e => hne e.symm
   have hne3 : (v == x) = false := by simpa using hne2
   have hkq2 : k + 1 ≤ q := by omega
   clear hx hkq
   go_wp2
   go_roundw
   case rel => exact ⟨k + 1, hkq2, by go_num, by first | rfl | trivial⟩
   case measure => simp [intOf]; omega
def zipW (a b : List Int) : List Int := List.zipWith (fun x y => min (x + y) 1099511627777) a b
theorem zipW_length (a b : List Int) (h : a.length = b.length) : (zipW a b).length = a.length := by simp [zipW, h]
def zipTo (a b : List Int) (i : Nat) : List Int := zipW (a.take i) (b.take i) ++ a.drop i
theorem zipTo_zero (a b : List Int) : zipTo a b 0 = a := by simp [zipTo, zipW]
theorem zipTo_all (a b : List Int) (h : a.length = b.length) : zipTo a b a.length = zipW a b := by
 unfold zipTo
 rw [List.take_length, List.drop_length, List.append_nil, h, List.take_length]
theorem zipTo_length (a b : List Int) (h : a.length = b.length) (i : Nat) : (zipTo a b i).length = a.length := by
 simp [zipTo, zipW, List.length_append]
 omega
theorem zipTo_get (a b : List Int) (h : a.length = b.length) {i : Nat} (hi : i < a.length) : (zipTo a b i)[i]? = some a[i] := by
 have hl : (zipW (a.take i) (b.take i)).length = i := by simp [zipW]; omega
 rw [zipTo, List.getElem?_append_right (by omega), hl, Nat.sub_self, List.getElem?_drop]
 simp [hi]
theorem zipTo_step (a b : List Int) (h : a.length = b.length) {i : Nat} (hi : i < a.length) : (zipTo a b i).set i (min (a[i] + b[i]) 1099511627777) = zipTo a b (i + 1) := by
 have hl : (zipW (a.take i) (b.take i)).length = i := by simp [zipW]; omega
 unfold zipTo
 rw [List.set_append_right _ _ (by omega), hl, Nat.sub_self, List.drop_eq_getElem_cons hi, List.set_cons_zero]
 have e1 : a.take (i + 1) = a.take i ++ [a[i]] := List.take_succ_eq_append_getElem hi
 have e2 : b.take (i + 1) = b.take i ++ [b[i]] := List.take_succ_eq_append_getElem (by omega)
 rw [e1, e2]
 have e3 : zipW (a.take i ++ [a[i]]) (b.take i ++ [b[i]]) = zipW (a.take i) (b.take i) ++ [min (a[i] + b[i]) 1099511627777] := by
  unfold zipW
  rw [List.zipWith_append (by simp; omega)]
  simp
 rw [e3, List.append_assoc]
 rfl
def baseW (p : Pg) (N : Nat) (ix : Nat → Nat) (n : Nat) : List Int := match p.ins[n]? with
 | some i => if i.op = 1 then (List.replicate N 0).set (ix n) 1 else if i.op = 0 then (List.replicate N 0).set (N - 1) 1 else List.replicate N 0
 | none => List.replicate N 0
structure IsC (p : Pg) (nodes : List Int) (ix : Nat → Nat) (C : Nat → List Int) : Prop where
 eq : ∀ n (h : n < p.ins.length), C n = (silL p.ins[n] n).foldl (fun acc t => zipW acc (C t.toNat)) (baseW p nodes.length ix n)
 len : ∀ n, n < p.ins.length → (C n).length = nodes.length
 rng : ∀ n, n < p.ins.length → ∀ v ∈ C n, 0 ≤ v ∧ v ≤ 1099511627777
 ix : ∀ n (h : n < p.ins.length), (p.ins[n]).op = 1 → ∃ h' : ix n < nodes.length, nodes[ix n] = n ∧ ∀ j (hj : j < ix n), nodes[j] ≠ n
 pos : 0 < nodes.length
 small : nodes.length ≤ 1000000
def cntC (p5 p3 p2 p6 : Nat) : Array Value := #[.pointer (some ⟨p5, 0, none⟩), .pointer (some ⟨p3, 0, none⟩), .pointer (some ⟨p2, 0, none⟩), .pointer (some ⟨p6, 0, none⟩)]
structure NS (W00 : World) (m N : Nat) (C : Nat → List Int) (p5 p3 p2 p6 kb : Nat) (sl : Nat → Option Nat × Nat) (w : World) : Prop where
 kp : Keeps [] W00 w
 c5 : w.cell? ⟨p5, 0, none⟩ = some (.slice (some ⟨kb, 0, none⟩) m m)
 c6 : w.cell? ⟨p6, 0, none⟩ = some (.func (.func 90) #[] (cntC p5 p3 p2 p6))
 row : w.heap[kb]? = some (.cells ((List.range m).map fun i => slv (sl i) (if (sl i).1 = none then 0 else N)).toArray 22 (0, 0))
 sls : ∀ i, i < m → ∀ g, (sl i).1 = some g → SliceAt w 3 1 (some g) N (sl i).2 ((C i).map (Value.int .i64)) ∧ g ≠ kb
 nil : ∀ i, i < m → (sl i).1 = none → (sl i).2 = 0
 nm : kb ≠ p5 ∧ kb ≠ p6 ∧ W00.heap.size ≤ kb
variable {W00 w w' : World} {m N : Nat} {C : Nat → List Int} {p5 p3 p2 p6 kb : Nat} {sl : Nat → Option Nat × Nat}
theorem NS.keep (h : NS W00 m N C p5 p3 p2 p6 kb sl w) (k : Keeps [] w w') : NS W00 m N C p5 p3 p2 p6 kb sl w' :=
 ⟨h.kp.trans k, k.cell h.c5 (by simp), k.cell h.c6 (by simp), k.heap h.row (by simp), fun i hi g hg => ⟨(h.sls i hi g hg).1.keep k (by simp), (h.sls i hi g hg).2⟩, h.nil, h.nm⟩
theorem NS.other (h : NS W00 m N C p5 p3 p2 p6 kb sl w) {g0 : Nat} (k : Keeps [g0] w w') (h0 : g0 ≠ p5 ∧ g0 ≠ p6 ∧ g0 ≠ kb ∧ W00.heap.size ≤ g0) (hs : ∀ i, i < m → (sl i).1 ≠ some g0) : NS W00 m N C p5 p3 p2 p6 kb sl w' :=
 ⟨h.kp.after k (fun q hq => by simp at hq; subst hq; exact .inr h0.2.2.2), k.cell h.c5 (by simpa using h0.1.symm), k.cell h.c6 (by simpa using h0.2.1.symm), k.heap h.row (by simpa using h0.2.2.1.symm),
  fun i hi g hg => ⟨(h.sls i hi g hg).1.keep k (fun g' hg' hm => by simp at hm; cases hg'; exact hs i hi (by rw [hg, hm])), (h.sls i hi g hg).2⟩, h.nil, h.nm⟩
theorem NS.cell (h : NS W00 m N C p5 p3 p2 p6 kb sl w) {i : Nat} (hi : i < m) : w.cell? ⟨kb, i, none⟩ = some (.slice ((sl i).1.map fun g => ⟨g, 0, none⟩) (if (sl i).1 = none then 0 else N) (sl i).2) := by
 simp [World.cell?, h.row, hi, slv]
theorem NS.fz (h : NS W00 m N C p5 p3 p2 p6 kb sl w) (i : Nat) : w.frozen? ⟨kb, i, none⟩ = false := by simp [World.frozen?, h.row]
theorem NS.store (h : NS W00 m N C p5 p3 p2 p6 kb sl w) {n g c : Nat} (hn : n < m) (hs : SliceAt w 3 1 (some g) N c ((C n).map (Value.int .i64))) (hg : g ≠ kb) :
  NS W00 m N C p5 p3 p2 p6 kb (updL sl n (some g, c)) (w.setCell ⟨kb, n, none⟩ (slv (some g, c) N)) ∧ Keeps [kb] w (w.setCell ⟨kb, n, none⟩ (slv (some g, c) N)) := by
 have k : Keeps [kb] w (w.setCell ⟨kb, n, none⟩ (slv (some g, c) N)) := (Keeps.refl [kb] w).setCell (by simp) _
 refine ⟨⟨h.kp.after k (fun q hq => by simp at hq; subst hq; exact .inr h.nm.2.2), k.cell h.c5 (by simpa using h.nm.1.symm), k.cell h.c6 (by simpa using h.nm.2.1.symm), ?_, fun i hi g' hg' => ?_, fun i hi hni => ?_, h.nm⟩, k⟩
 ·rw [heap_setCell_same w kb n _ _ _ h.row]
  congr 2
  apply Array.ext'
  simp only [Array.toList_setIfInBounds]
  apply List.ext_getElem
  ·simp
  ·intro q h1 h2
   simp only [List.length_set, List.length_map, List.length_range] at h1
   simp only [List.getElem_set, List.getElem_map, List.getElem_range]
   by_cases e : n = q
   ·subst e; simp [updL]
   ·rw [if_neg e]; simp [updL, show ¬ q = n from fun e2 => e e2.symm]
 ·by_cases e : i = n
  ·subst e
   simp only [updL, if_true, Option.some.injEq] at hg' ⊢
   subst hg'
   exact ⟨hs.keep k (fun g' e' hm => by cases e'; simp at hm; exact hg hm), hg⟩
  ·simp only [updL, if_neg e] at hg' ⊢
   obtain ⟨h1, h2⟩ := h.sls i hi g' hg'
   exact ⟨h1.keep k (fun g'' e' hm => by cases e'; simp at hm; exact h2 hm), h2⟩
 ·by_cases e : i = n
  ·subst e; simp [updL] at hni
  ·simp only [updL, if_neg e] at hni ⊢
   exact h.nil i hi hni
end
theorem count_any {W00 : World} {p : Pg} {p5 p3 p2 p6 kb : Nat} {ρ : Nat → Nat} {nodes : List Int} {na : Option Addr} {nc : Nat} {ix : Nat → Nat} {C : Nat → List Int} (hp : PgIn W00 p) (hg : W00.heap[p2]? = some (.cells p.row.toArray 83 (0, 0))) (hE : Ends p ρ)
  (hnb : W00.cell? ⟨p3, 0, none⟩ = some (.slice na nodes.length nc)) (hni : IntsIn W00 na nodes) (hC : IsC p nodes ix C) : ∀ r n w sl, n < p.ins.length → ρ n < r → NS W00 p.ins.length nodes.length C p5 p3 p2 p6 kb sl w →
  Calls Tryz.prog 90 (#[.int .i64 n] ++ cntC p5 p3 p2 p6) w fun e w' => ∃ g c sl', e = .returned (.slice (some ⟨g, 0, none⟩) nodes.length c) ∧ SliceAt w' 3 1 (some g) nodes.length c ((C n).map (Value.int .i64)) ∧ g ≠ kb ∧ Keeps [kb] w w' ∧ NS W00 p.ins.length nodes.length C p5 p3 p2 p6 kb sl' w' ∧ (sl' n).1 = some g ∧ ∀ i, i < p.ins.length → ∀ g', (sl' i).1 = some g' → (sl i).1 = some g' ∨ w.heap.size ≤ g' := by
 intro r
 induction r with
 | zero => intro n w sl _ h; omega
 | succ r ih =>
  intro n w sl hn hr hns
  have hlen := hp.len
  have hNs := hC.small
  have hNp := hC.pos
  have c5 := hns.c5
  have kc := hns.cell hn
  have HNS := gI hns
  have IH := gI ih
  have HP := gI hp
  have HG := gI hg
  have HE := gI hE
  have HR := gI hr
  have HNB := gI hnb
  have HNI := gI hni
  have HC := gI hC
  obtain ⟨N, hN⟩ : ∃ N, N = nodes.length := ⟨_, rfl⟩
  rw [← hN] at hNs hNp HNB kc HNS IH
  simp only [← hN]
  have HN := gI hN
  clear hns ih hp hg hE hr hnb hni hC hN
  show Calls Tryz.prog 90 #[.int .i64 n, .pointer (some ⟨p5, 0, none⟩), .pointer (some ⟨p3, 0, none⟩), .pointer (some ⟨p2, 0, none⟩), .pointer (some ⟨p6, 0, none⟩)] w _
  cases hsl : (sl n).1 with
  | some g =>
   obtain ⟨h1, h2⟩ := HNS.out.sls n hn g hsl
   rw [hsl] at kc
   simp only [Option.map_some, reduceCtorEq, if_false] at kc
   obtain ⟨cc, hcc⟩ : ∃ cc, cc = (sl n).2 := ⟨_, rfl⟩
   rw [← hcc] at kc h1
   have H1 := gI h1
   have H2 := gI h2
   have HSL := gI hsl
   clear h1 h2 hsl hcc
   go_enter Tryz.func90, Tryz.ntmps90
   go_wp2
   go_ret
   exact ⟨g, cc, sl, rfl, H1.out, H2.out, Keeps.refl _ _, HNS.out, HSL.out, fun i _ g' h => .inl h⟩
  | none =>
   have hn2 := HNS.out.nil n hn hsl
   rw [hsl, hn2] at kc
   simp only [Option.map_none, if_true] at kc
   have b3 := HNS.out.kp.cell HNB.out (by simp)
   obtain ⟨ij, hi0, hi1, hi2, hi3⟩ := infoParts infoInt
   have HMK2 : ∀ W : World, (Instr.makeSlice 22 (.int .i64 (N : Nat)) (.int .i64 (N : Nat))).run Tryz.prog W = .ok (.slice (some ⟨W.heap.size, 0, none⟩) N N) (W.alloc (.cells (Array.replicate N (.int .i64 0)) 3)) := fun W => by
    have h := run_make_ints Tryz.underlying22 hi0 hi1 hi2 hi3 W (N : Nat) (by omega) (by omega)
    simpa using h
   obtain ⟨g0, hg0⟩ : ∃ n, n = w.heap.size := ⟨_, rfl⟩
   obtain ⟨w1, hw1⟩ : ∃ w1, w1 = w.alloc (.cells (Array.replicate N (.int .i64 0)) 3) := ⟨_, rfl⟩
   have hk1 : Keeps [] w w1 := by rw [hw1]; exact Keeps.a1 _ _
   have hI1 : Ints 3 w1 g0 (List.replicate N (0 : Int)) := by
    have h := heap_alloc_new w (.cells (Array.replicate N (.int .i64 0)) 3)
    unfold Ints
    rw [hw1, hg0, h]
    simp
   have HI1 := gI hI1
   have HK1 := gI hk1
   have HW1 := gI hw1
   have HG0 := gI hg0
   have hgr : w1.heap[p2]? = some (.cells p.row.toArray 83 (0, 0)) := (HNS.out.kp.trans hk1).heap HG.out (by simp)
   have b0 : w1.cell? ⟨p2, 0, none⟩ = some (.slice p.ia p.ins.length p.ic) := by simp [World.cell?, hgr, Pg.row]
   have b1 : w1.cell? ⟨p2, 1, none⟩ = some (.int .i64 p.caps) := by simp [World.cell?, hgr, Pg.row]
   have b2 : w1.cell? ⟨p2, 2, none⟩ = some (.bool p.runes) := by simp [World.cell?, hgr, Pg.row]
   have b3' := hk1.cell b3 (by simp)
   obtain ⟨pb, off, hia, hcells⟩ := HP.out.ins (by omega)
   have hins := ((hcells n hn).keep (HNS.out.kp.trans hk1) (by simp)).1
   obtain ⟨op, hop⟩ : ∃ op, op = (p.ins[n]).op := ⟨_, rfl⟩
   rw [← hop] at hins
   have HOP := gI hop
   rw [hia] at b0
   clear hi0 hi1 hi2 hi3 hI1 hk1 hw1 hg0 hgr hcells hop hn2 hsl
   go_enter Tryz.func90, Tryz.ntmps90
   go_upto_region 4 with fail
   rw [← HW1.out, ← HG0.out]
   go_upto_block 0 with fail
   have HBASE := gI (show baseW p N ix n = if op = 1 then (List.replicate N 0).set (ix n) 1 else if op = 0 then (List.replicate N 0).set (N - 1) 1 else List.replicate N 0 from by
    unfold baseW
    rw [List.getElem?_eq_getElem hn, HOP.out])
   go_cut [] (fun wx => Ints 3 wx g0 (baseW p N ix n) ∧ Keeps [g0] w1 wx)
   case first =>
    by_cases h1 : op = 1
    ·subst h1
     obtain ⟨hq, hq2, hq3⟩ := HC.out.ix n hn HOP.out.symm
     have HIX := index_any na nc nodes (n : Int) (ix n) w1 (HNI.out.keep (HNS.out.kp.trans HK1.out)) HC.out.small hq hq2 hq3
     rw [← HN.out] at HIX hq
     have HIX := gI HIX
     have hc1 := HI1.out.cell (ix n) (by simpa using hq)
     simp only [List.getElem_replicate] at hc1
     have hf1 := HI1.out.fz (ix n)
     have HSET := gI (HI1.out.set (ix n) 1)
     obtain ⟨q, hqe⟩ : ∃ q, q = ix n := ⟨_, rfl⟩
     simp only [← hqe] at HIX hq hc1 hf1 HSET HBASE
     have HKS := gI (show Keeps [g0] w1 (w1.setCell ⟨g0, q, none⟩ (.int .i64 1)) from (Keeps.refl [g0] w1).setCell (by simp) _)
     clear hq2 hq3 hqe
     go_wp2_with (go_at_call 91; refine HIX.out.mono ?_; rintro e w' ⟨rfl, rfl⟩)
     go_meet
     rw [HBASE.out]
     exact ⟨HSET.out, HKS.out⟩
    ·have h1b : (op == 1) = false := by simpa using h1
     by_cases h0 : op = 0
     ·subst h0
      have hw : IntKind.i64.wrap ((N : Int) - 1) = ((N - 1 : Nat) : Int) := by rw [IntWalk.i64_in _ (by omega)]; omega
      obtain ⟨q, hqe⟩ : ∃ q, q = N - 1 := ⟨_, rfl⟩
      have hq : q < N := by omega
      simp only [← hqe] at hw HBASE
      have hc1 := HI1.out.cell q (by simpa using hq)
      simp only [List.getElem_replicate] at hc1
      have hf1 := HI1.out.fz q
      have HSET := gI (HI1.out.set q 1)
      have HKS := gI (show Keeps [g0] w1 (w1.setCell ⟨g0, q, none⟩ (.int .i64 1)) from (Keeps.refl [g0] w1).setCell (by simp) _)
      clear hqe
      go_wp2
      go_meet
      rw [HBASE.out]
      exact ⟨HSET.out, HKS.out⟩
     ·have h0b : (op == 0) = false := by simpa using h0
      have HB3 := gI (show baseW p N ix n = List.replicate N 0 by rw [HBASE.out, if_neg h1, if_neg h0])
      clear h1 h0
      go_wp2
      go_meet
      rw [HB3.out]
      exact ⟨HI1.out, Keeps.refl _ _⟩
   case rest =>
    obtain ⟨hbs, hkc⟩ := hcut
    obtain ⟨w2, hw2⟩ : ∃ w2 : World, w2 = wc := ⟨_, rfl⟩
    subst hw2
    obtain ⟨zs0, hz0⟩ : ∃ zs, zs = baseW p N ix n := ⟨_, rfl⟩
    rw [← hz0] at hbs
    have hzl : zs0.length = N := by rw [hz0, HBASE.out]; split; simp; split <;> simp
    have hzr : ∀ v ∈ zs0, 0 ≤ v ∧ v ≤ 1099511627777 := by
     have hrep : ∀ v ∈ List.replicate N (0 : Int), 0 ≤ v ∧ v ≤ 1099511627777 := fun v hv => by rw [List.eq_of_mem_replicate hv]; omega
     intro v hv
     rw [hz0, HBASE.out] at hv
     split at hv
     ·rcases List.mem_or_eq_of_mem_set hv with h | h
      ·exact hrep v h
      ·omega
     ·split at hv
      ·rcases List.mem_or_eq_of_mem_set hv with h | h
       ·exact hrep v h
       ·omega
      ·exact hrep v hv
    have hW00 := HNS.out.kp.size
    have hp2 : p2 < W00.heap.size := lt_of_block HG.out
    have hp5 : p5 < w.heap.size := World.block_lt_of_cell? _ _ HNS.out.c5
    have hp6 : p6 < w.heap.size := World.block_lt_of_cell? _ _ HNS.out.c6
    have hkb : kb < w.heap.size := lt_of_block HNS.out.row
    have hge := HG0.out
    have hslo : ∀ i, i < p.ins.length → (sl i).1 ≠ some g0 := fun i hi e => by
     have h1 := (HNS.out.sls i hi g0 e).1.lt
     omega
    have hns2 := (HNS.out.keep HK1.out).other hkc ⟨by omega, by omega, by omega, by omega⟩ hslo
    have b0' := hkc.cell b0 (by simp; omega)
    have b1' := hkc.cell b1 (by simp; omega)
    have b2' := hkc.cell b2 (by simp; omega)
    have HSLT := silent_any p n w2 (HP.out.keep hns2.kp) hn
    simp only [Pg.val] at HSLT
    rw [hia] at HSLT
    obtain ⟨L, hL⟩ : ∃ L, L = silL p.ins[n] n := ⟨_, rfl⟩
    rw [← hL] at HSLT
    have HSLT := gI HSLT
    have HL := gI hL
    have HLE := HE.out n hn
    rw [← hL] at HLE
    have HLE := gI HLE
    have hLl : L.length ≤ 1000000 := by
     rw [hL]; unfold silL; split; simp; split; simp; split <;> simp
    have HNS2 := gI hns2
    have HZ0 := gI hz0
    have HZL := gI hzl
    have HZR := gI hzr
    have HBS := gI hbs
    have HSLO := gI hslo
    have HK2 := gI (show Keeps [kb, g0] w1 w2 from hkc.mono (by simp))
    have HNE := gI (show g0 ≠ p5 ∧ g0 ≠ p6 ∧ g0 ≠ kb ∧ W00.heap.size ≤ g0 from ⟨by omega, by omega, by omega, by omega⟩)
    clear hbs hkc hz0 hzl hzr hW00 hp2 hp5 hp6 hkb hge hslo hns2 hL b0 b1 b2 b3 b3' c5 kc hins
    go_wp2_with fail
    refine HSLT.out.mono ?_
    rintro e w3 ⟨aL, cL, rfl, hsL, hk3, hgL⟩
    simp only [sv]
    have HNS3 := gI (HNS2.out.keep hk3)
    have HI3 := gI (HBS.out.keep hk3 (by simp))
    have HSL3 := gI hsL
    have HK3 := gI (HK2.out.trans (hk3.mono (by simp)))
    have HGL := gI (show ∀ g, aL = some g → g ≠ kb ∧ g ≠ g0 from fun g hg => by
     have h1 := hgL g hg
     have h2 := HBS.out.lt
     have h3 := lt_of_block HNS2.out.row
     omega)
    clear hsL hk3 hgL b0' b1' b2'
    go_wp2
    go_loopw [48] (fun v wr => ∃ (k : Nat) (zs : List Int) (sl' : Nat → Option Nat × Nat), v = .int .i64 k ∧ k ≤ L.length ∧ NS W00 p.ins.length N C p5 p3 p2 p6 kb sl' wr ∧ Ints 3 wr g0 zs ∧ zs = (L.take k).foldl (fun acc t => zipW acc (C t.toNat)) zs0 ∧ zs.length = N ∧ (∀ v ∈ zs, 0 ≤ v ∧ v ≤ 1099511627777) ∧
     SliceAt wr 3 1 aL L.length cL (L.map (Value.int .i64)) ∧ Keeps [kb, g0] w1 wr ∧ ∀ i, i < p.ins.length → ∀ g', (sl' i).1 = some g' → (sl i).1 = some g' ∨ w1.heap.size ≤ g') (fun v _ => L.length - (intOf v).toNat)
    case atStart => exact ⟨0, zs0, sl, rfl, Nat.zero_le _, HNS3.out, HI3.out, rfl, HZL.out, HZR.out, HSL3.out, HK3.out, fun i _ g' h => .inl h⟩
    case round =>
     obtain ⟨k, zs, sl', rfl, hk, hns', hzi, hze, hzl, hzr, hsL, hkk, hslr⟩ := hrel
     obtain ⟨wA, hwA⟩ : ∃ wA : World, wA = wr := ⟨_, rfl⟩
     subst hwA
     have HNSA := gI hns'
     have HZI := gI hzi
     have HZE := gI hze
     have HZRA := gI hzr
     have HSLA := gI hsL
     have HKKA := gI hkk
     have HSLR := gI hslr
     have HSG := gI (show ∀ i, i < p.ins.length → (sl' i).1 ≠ some g0 from fun i hi e => by
      rcases hslr i hi g0 e with h | h
      ·exact HSLO.out i hi h
      ·have h2 := HI1.out.lt; omega)
     clear hzi hze hzr hkk hslr
     by_cases hkl : k < L.length
     ·obtain ⟨g1, rfl⟩ := hsL.some_of (by omega)
      simp only [Option.map_some]
      have lc := hsL.cell k (by simpa using hkl)
      simp only [List.getElem_map] at lc
      obtain ⟨j, hj1, hj2, hj3⟩ := HLE.out L[k] (List.getElem_mem hkl)
      have htk : L.take (k + 1) = L.take k ++ [(j : Int)] := by rw [List.take_succ_eq_append_getElem hkl, hj1]
      rw [hj1] at lc
      have c6 := hns'.c6
      unfold cntC at c6
      have HREC := IH.out j wA sl' hj2 (by have := HR.out; omega) HNSA.out
      unfold cntC at HREC
      have HREC := gI HREC
      have HTK := gI htk
      have HCL := gI (show (C j).length = N by rw [HC.out.len j hj2, HN.out])
      have HCR := gI (HC.out.rng j hj2)
      have HJ2 := gI hj2
      clear hns' hsL htk hj1 hj3
      go_wp2_with fail
      refine HREC.out.mono ?_
      rintro e w5 ⟨g5, c5', sl5, rfl, hs5, hg5, hk5, hn5, hsg5, hnew5⟩
      have hg50 : g5 ≠ g0 := fun e => by
       subst e
       rcases hnew5 j HJ2.out _ hsg5 with h | h
       ·exact HSG.out j HJ2.out h
       ·have := HZI.out.lt; omega
      have HI5 := gI (HZI.out.keep hk5 (by simp; exact HNE.out.2.2.1))
      have HS5 := gI hs5
      have HN5 := gI hn5
      have HSL5 := gI (HSLA.out.keep hk5 (fun g hg hm => by simp at hm; exact (HGL.out g hg).1 hm))
      have HK5 := gI (HKKA.out.trans (hk5.mono (fun q hq => .inl (by simp at hq; simp [hq]))))
      have HSG5 := gI (show ∀ i, i < p.ins.length → (sl5 i).1 ≠ some g0 from fun i hi e => by
       rcases hnew5 i hi g0 e with h | h
       ·exact HSG.out i hi h
       ·have := HZI.out.lt; omega)
      have HSR5 := gI (show ∀ i, i < p.ins.length → ∀ g', (sl5 i).1 = some g' → (sl i).1 = some g' ∨ w1.heap.size ≤ g' from fun i hi g' h => by
       rcases hnew5 i hi g' h with h2 | h2
       ·exact HSLR.out i hi g' h2
       ·have := HKKA.out.size; exact .inr (by omega))
      have HG50 := gI hg50
      clear hs5 hg5 hk5 hn5 hsg5 hnew5 hg50 lc c6
      go_wp2
      go_loopw [56] (fun v wr => ∃ (i : Nat), v = .int .i64 i ∧ i ≤ N ∧ NS W00 p.ins.length N C p5 p3 p2 p6 kb sl5 wr ∧ Ints 3 wr g0 (zipTo zs (C j) i) ∧ SliceAt wr 3 1 (some g5) N c5' ((C j).map (Value.int .i64)) ∧ SliceAt wr 3 1 (some g1) L.length cL (L.map (Value.int .i64)) ∧ Keeps [kb, g0] w1 wr) (fun v _ => N - (intOf v).toNat)
      case atStart => exact ⟨0, rfl, Nat.zero_le _, HN5.out, by rw [zipTo_zero]; exact HI5.out, HS5.out, HSL5.out, HK5.out⟩
      case round =>
       obtain ⟨i, rfl, hi, hnB, hiB, hsB, hlB, hkB⟩ := hrel
       obtain ⟨wB, hwB⟩ : ∃ wB : World, wB = wr := ⟨_, rfl⟩
       subst hwB
       have HNB2 := gI hnB
       have HIB := gI hiB
       have HSB := gI hsB
       have HLB := gI hlB
       have HKB := gI hkB
       have hab : zs.length = (C j).length := by rw [hzl, HCL.out]
       by_cases hiN : i < N
       ·have hiz : i < zs.length := by omega
        have hic : i < (C j).length := by rw [HCL.out]; exact hiN
        have hzt := zipTo_get zs (C j) hab hiz
        have hzlen : i < (zipTo zs (C j) i).length := by rw [zipTo_length zs (C j) hab]; exact hiz
        have a0 := hiB.cell i hzlen
        have af := hiB.fz i
        rw [List.getElem?_eq_getElem hzlen] at hzt
        rw [Option.some.inj hzt] at a0
        have m0 := hsB.cell i (by simpa using hic)
        simp only [List.getElem_map] at m0
        have r1 := HZRA.out zs[i] (List.getElem_mem hiz)
        have r2 := HCR.out (C j)[i] (List.getElem_mem hic)
        have HSTEP := gI (zipTo_step zs (C j) hab hiz)
        have HSET := gI (fun v => hiB.set i v)
        have HKS := gI (fun v => show Keeps [g0] wB (wB.setCell ⟨g0, i, none⟩ (.int .i64 v)) from (Keeps.refl [g0] wB).setCell (by simp) _)
        obtain ⟨x, hx⟩ : ∃ x, x = zs[i] := ⟨_, rfl⟩
        obtain ⟨y, hy⟩ : ∃ y, y = (C j)[i] := ⟨_, rfl⟩
        simp only [← hx, ← hy] at a0 m0 r1 r2 HSTEP
        have hne5 : ¬ g5 = g0 := HG50.out
        clear hnB hiB hsB hlB hkB hzt hzlen hx hy hiz hic
        have hFIN : ∀ v, v = min (x + y) 1099511627777 → NS W00 p.ins.length N C p5 p3 p2 p6 kb sl5 (wB.setCell ⟨g0, i, none⟩ (.int .i64 v)) ∧ Ints 3 (wB.setCell ⟨g0, i, none⟩ (.int .i64 v)) g0 (zipTo zs (C j) (i + 1)) ∧ SliceAt (wB.setCell ⟨g0, i, none⟩ (.int .i64 v)) 3 1 (some g5) N c5' ((C j).map (Value.int .i64)) ∧ SliceAt (wB.setCell ⟨g0, i, none⟩ (.int .i64 v)) 3 1 (some g1) L.length cL (L.map (Value.int .i64)) ∧ Keeps [kb, g0] w1 (wB.setCell ⟨g0, i, none⟩ (.int .i64 v)) := fun v hv => by
         subst hv
         have hks := HKS.out (min (x + y) 1099511627777)
         refine ⟨HNB2.out.other hks HNE.out HSG5.out, ?_, HSB.out.keep hks (fun g hg hm => by cases hg; simp at hm; exact HG50.out hm), HLB.out.keep hks (fun g hg hm => by cases hg; simp at hm; exact (HGL.out g1 rfl).2 hm), HKB.out.trans (hks.mono (by simp))⟩
         have h := HSET.out (min (x + y) 1099511627777)
         rw [HSTEP.out] at h
         exact h
        have HFIN := gI hFIN
        clear hFIN
        by_cases hxy : x + y < 1099511627777
        ·have hxy2 : ¬ (1099511627777 < x + y) := by omega
         have hxy3 : ¬ (1099511627777 ≤ x + y) := by omega
         have hxy4 : x + y ≤ 1099511627777 := by omega
         have hxy5 : ¬ (x + y = 1099511627777) := by omega
         go_wp2
         go_roundw
         case rel => exact ⟨i + 1, by go_num, hiN, HFIN.out (x + y) (by omega)⟩
         case measure => simp [intOf]; omega
        ·by_cases hxe : x + y = 1099511627777
         ·have hxy2 : ¬ (1099511627777 < x + y) := by omega
          have hxy4 : x + y ≤ 1099511627777 := by omega
          go_wp2
          go_roundw
          case rel => exact ⟨i + 1, by go_num, hiN, HFIN.out _ (by omega)⟩
          case measure => simp [intOf]; omega
         ·have hxy2 : 1099511627777 < x + y := by omega
          have hxy3 : 1099511627777 ≤ x + y := by omega
          have hxy4 : ¬ (x + y ≤ 1099511627777) := by omega
          go_wp2
          go_roundw
          case rel => exact ⟨i + 1, by go_num, hiN, HFIN.out 1099511627777 (by omega)⟩
          case measure => simp [intOf]; omega
       ·obtain rfl : N = i := by omega
        have HZW := gI (show zipTo zs (C j) zs.length = zipW zs (C j) from zipTo_all zs (C j) hab)
        have HIB2 := gI (show Ints 3 wB g0 (zipW zs (C j)) from by
         rw [← HZW.out]
         rw [hzl]
         exact HIB.out)
        have HLN2 := gI (show (zipW zs (C j)).length = N by rw [zipW_length _ _ hab, hzl])
        have HRN := gI (show ∀ v ∈ zipW zs (C j), 0 ≤ v ∧ v ≤ 1099511627777 from fun v hv => by
         obtain ⟨q, hq, rfl⟩ := List.mem_iff_getElem.1 hv
         simp only [zipW, List.getElem_zipWith]
         simp only [zipW, List.length_zipWith] at hq
         have h1 := HZRA.out zs[q] (List.getElem_mem (by omega))
         have h2 := HCR.out (C j)[q] (List.getElem_mem (by omega))
         omega)
        have HZE2 := gI (show zipW zs (C j) = (L.take (k + 1)).foldl (fun acc t => zipW acc (C t.toNat)) zs0 from by
         rw [HTK.out, List.foldl_append, ← HZE.out]
         simp)
        clear hnB hiB hsB hlB hkB
        go_wp2
        go_roundw
        case rel => exact ⟨k + 1, zipW zs (C j), sl5, by go_num, hkl, HNB2.out, HIB2.out, HZE2.out, HLN2.out, HRN.out, HLB.out, HKB.out, HSR5.out⟩
        case measure => simp [intOf]; omega
     ·obtain rfl : k = L.length := by omega
      have hcn : zs = C n := by
       rw [HC.out.eq n hn, HZE.out, HZ0.out, List.take_of_length_le (Nat.le_refl _), ← HL.out, HN.out]
      subst hcn
      have HSF := gI (show SliceAt wA 3 1 (some g0) N N ((C n).map (Value.int .i64)) by
       have h := SliceAt.of_ints HZI.out (by rw [hzl]; unfold maxLen; omega)
       rw [hzl] at h
       exact h)
      obtain ⟨hst, hks⟩ := HNSA.out.store hn HSF.out HNE.out.2.2.1
      have c5 := hns'.c5
      have kc := hns'.cell hn
      have kf := hns'.fz n
      have HST := gI hst
      have HKS := gI hks
      have HSF2 := gI (HSF.out.keep hks (fun g hg hm => by cases hg; simp at hm; exact HNE.out.2.2.1 hm))
      clear hns' hsL hzl hst hks
      go_wp2
      go_ret
      refine ⟨g0, N, updL sl' n (some g0, N), rfl, HSF2.out, HNE.out.2.2.1, ((HK1.out.mono (by simp)).after HKKA.out (fun q hq => ?_)).trans HKS.out, HST.out, by simp [updL], fun i hi g' h => ?_⟩
      ·simp at hq
       rcases hq with rfl | rfl
       ·exact .inl (by simp)
       ·exact .inr (by rw [HG0.out]; exact Nat.le_refl _)
      ·have hs1 := HK1.out.size
       by_cases e : i = n
       ·subst e
        simp only [updL, if_true, Option.some.injEq] at h
        subst h
        exact .inr (by rw [HG0.out]; exact Nat.le_refl _)
       ·simp only [updL, if_neg e] at h
        rcases HSLR.out i hi g' h with h2 | h2
        ·exact .inl h2
        ·exact .inr (by omega)
end Go.Proofs.YtkekenaamnhbhaaGreat
