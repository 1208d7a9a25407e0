/- Part 13 of the proof. No condition: every lemma says its own. -/
import Derived.Test.YtphnbmdcgcchaaaDoorEal
import Derived.Test.YtphnbmdcgcchaaaDoorEak
namespace Go.Proofs.YtphnbmdcgcchaaaDoor
open Go.RowKit Go.Sort Go.BigFrame
open Go.RowKit Go.Sort Go.BigFrame Classical
set_option maxRecDepth 100000
set_option maxHeartbeats 16000000
def leadN (rows : List Nat) (to_ : Nat) : Nat → Nat
 | 0 => 0
 | k + 1 => if (rows.getD k 0).testBit to_ then leadN rows to_ k ||| 2 ^ k else leadN rows to_ k
theorem leadN_lt (rows : List Nat) (to_ : Nat) : ∀ k, k ≤ 64 → leadN rows to_ k < 2 ^ 64
 | 0, _ => by simp [leadN]
 | k + 1, h => by
  unfold leadN
  split
  ·exact or_lt (leadN_lt rows to_ k (by omega)) (two_pow_lt (by omega))
  ·exact leadN_lt rows to_ k (by omega)
theorem leadN_bit (rows : List Nat) (to_ : Nat) : ∀ k n, (leadN rows to_ k).testBit n = true ↔ n < k ∧ (rows.getD n 0).testBit to_ = true
 | 0, n => by simp [leadN]
 | k + 1, n => by
  unfold leadN
  split
  ·rename_i h
   rw [Nat.testBit_or, Bool.or_eq_true, leadN_bit rows to_ k n, testBit_two]
   constructor
   ·rintro (⟨h1, h2⟩ | rfl)
    ·exact ⟨by omega, h2⟩
    ·exact ⟨by omega, h⟩
   ·rintro ⟨h1, h2⟩
    rcases Nat.lt_or_ge n k with h3 | h3
    ·exact .inl ⟨h3, h2⟩
    ·exact .inr (by omega)
  ·rename_i h
   rw [leadN_bit rows to_ k n]
   constructor
   ·rintro ⟨h1, h2⟩; exact ⟨by omega, h2⟩
   ·rintro ⟨h1, h2⟩
    refine ⟨?_, h2⟩
    rcases Nat.lt_or_ge n k with h3 | h3
    ·exact h3
    ·obtain rfl : n = k := by omega
     exact absurd h2 h
def partN (rows : List Nat) (n : Nat) : Nat := rows.getD n 0 &&& leadN rows n rows.length
theorem partN_bit (rows : List Nat) (n m : Nat) : (partN rows n).testBit m = true ↔ (rows.getD n 0).testBit m = true ∧ m < rows.length ∧ (rows.getD m 0).testBit n = true := by
 rw [partN, Nat.testBit_and, Bool.and_eq_true, leadN_bit]
theorem partN_lt (rows : List Nat) (n : Nat) (h : rows.length ≤ 64) : partN rows n < 2 ^ 64 := Nat.lt_of_le_of_lt Nat.and_le_right (leadN_lt _ _ _ h)
def reachN (rows : List Nat) (first : List Int) : Nat → Nat
 | 0 => 0
 | k + 1 => if first.getD k 0 ≠ 0 then reachN rows first k ||| rows.getD k 0 else reachN rows first k
theorem reachN_lt (rows : List Nat) (first : List Int) (h : ∀ n, n < rows.length → rows.getD n 0 < 2 ^ 64) : ∀ k, k ≤ rows.length → reachN rows first k < 2 ^ 64
 | 0, _ => by simp [reachN]
 | k + 1, hk => by
  unfold reachN
  split
  ·exact or_lt (reachN_lt rows first h k (by omega)) (h k (by omega))
  ·exact reachN_lt rows first h k (by omega)
theorem reachN_bit (rows : List Nat) (first : List Int) : ∀ k m, (reachN rows first k).testBit m = true ↔ ∃ n, n < k ∧ first.getD n 0 ≠ 0 ∧ (rows.getD n 0).testBit m = true
 | 0, m => by simp [reachN]
 | k + 1, m => by
  unfold reachN
  split
  ·rename_i h
   rw [Nat.testBit_or, Bool.or_eq_true, reachN_bit rows first k m]
   constructor
   ·rintro (⟨n, h1, h2, h3⟩ | h3)
    ·exact ⟨n, by omega, h2, h3⟩
    ·exact ⟨k, by omega, h, h3⟩
   ·rintro ⟨n, h1, h2, h3⟩
    rcases Nat.lt_or_ge n k with h4 | h4
    ·exact .inl ⟨n, h4, h2, h3⟩
    ·obtain rfl : n = k := by omega
     exact .inr h3
  ·rename_i h
   rw [reachN_bit rows first k m]
   constructor
   ·rintro ⟨n, h1, h2, h3⟩; exact ⟨n, by omega, h2, h3⟩
   ·rintro ⟨n, h1, h2, h3⟩
    refine ⟨n, ?_, h2, h3⟩
    rcases Nat.lt_or_ge n k with h4 | h4
    ·exact h4
    ·obtain rfl : n = k := by omega
     exact absurd h2 h
theorem leading_any (wb : Nat) (x : Gr) (rows : List Nat) (t : Nat) (w : World) (hw : WaysAt w wb x rows) (hl : rows.length = x.nodes.length) (hn : x.nodes.length ≤ 64) (hlt : ∀ n, n < rows.length → rows.getD n 0 < 2 ^ 64) (ht : t < 64) :
  Calls Tryd.prog 52 #[.pointer (some ⟨wb, 0, none⟩), .int .i64 t] w fun e w' => e = .returned (.int .u64 ((leadN rows t rows.length : Nat) : Int)) ∧ w = w' := by
 obtain ⟨ob, rb, hb, hu, _⟩ := hw.box
 have c5 := (way_cells hb).2.2.2.2.2
 rw [← hl] at c5 hn
 obtain ⟨R, hR⟩ : ∃ R, R = leadN rows t rows.length := ⟨_, rfl⟩
 rw [← hR]
 have HR := Lib.hid hR
 have HU := Lib.hid hu
 have HLT := Lib.hid hlt
 clear hw hb hu hl hlt hR
 go_enter Tryd.func52, Tryd.ntmps52
 go_wp2
 go_loopw [13, 5] (fun i a wr => ∃ k : Nat, k ≤ rows.length ∧ i = .int .i64 k ∧ a = .int .u64 ((leadN rows t k : Nat) : Int) ∧ w = wr) (fun i _ _ => rows.length - (intOf i).toNat)
 case atStart => exact ⟨0, Nat.zero_le _, rfl, rfl, rfl⟩
 case round =>
  obtain ⟨k, hk, rfl, rfl, rfl⟩ := hrel
  by_cases hlt : k < rows.length
  ·have u := HU.out.cell k hlt
   have hh := Lib.hid (fun W => hasN_any (rows.getD k 0) t W ht (HLT.out k hlt))
   have ho := Lib.hid (fun W => one_any k W (by omega))
   have hst : leadN rows t (k + 1) = if (rows.getD k 0).testBit t then leadN rows t k ||| 2 ^ k else leadN rows t k := rfl
   have hor := or_u64 (leadN rows t k) (2 ^ k) (leadN_lt rows t k (by omega)) (two_pow_lt (by omega))
   obtain ⟨tb, htb⟩ : ∃ tb, tb = (rows.getD k 0).testBit t := ⟨_, rfl⟩
   obtain ⟨r, hr⟩ : ∃ r, r = rows.getD k 0 := ⟨_, rfl⟩
   simp only [← htb] at hh hst
   simp only [← hr] at u hh
   have HST := Lib.hid hst
   clear hst htb hr
   obtain ⟨q, hq⟩ : ∃ q, q = leadN rows t k := ⟨_, rfl⟩
   obtain ⟨p, hp⟩ : ∃ p, p = 2 ^ k := ⟨_, rfl⟩
   simp only [← hq, ← hp] at hor HST ho ⊢
   have HQ := Lib.hid hq
   clear hq hp
   cases tb with
   | true =>
    have HS2 := Lib.hid (show leadN rows t (k + 1) = q ||| p by rw [HST.out]; rfl)
    go_wp2_with (first | (go_at_call 23; refine (hh.out _).mono ?_; rintro e w' ⟨rfl, rfl⟩) | (go_at_call 37; refine (ho.out _).mono ?_; rintro e w' ⟨rfl, rfl⟩))
    go_roundw
    case rel => exact ⟨k + 1, by omega, by go_num, by rw [HS2.out], (by first | rfl | trivial)⟩
    case measure => simp [intOf]; omega
   | false =>
    have HS2 := Lib.hid (show leadN rows t (k + 1) = q by rw [HST.out]; rfl)
    go_wp2_with (go_at_call 23; refine (hh.out _).mono ?_; rintro e w' ⟨rfl, rfl⟩)
    go_roundw
    case rel => exact ⟨k + 1, by omega, by go_num, by rw [HS2.out], (by first | rfl | trivial)⟩
    case measure => simp [intOf]; omega
  ·obtain rfl : k = rows.length := by omega
   rw [← HR.out]
   go_wp2
   go_ret
   exact ⟨rfl, rfl⟩
theorem part_any (wb : Nat) (x : Gr) (rows : List Nat) (n : Nat) (w : World) (hw : WaysAt w wb x rows) (hl : rows.length = x.nodes.length) (hn : x.nodes.length ≤ 64) (hlt : ∀ n, n < rows.length → rows.getD n 0 < 2 ^ 64) (ht : n < rows.length) :
  Calls Tryd.prog 38 #[.pointer (some ⟨wb, 0, none⟩), .int .i64 n] w fun e w' => e = .returned (.int .u64 ((partN rows n : Nat) : Int)) ∧ Keeps [] w w' := by
 obtain ⟨ob, rb, hb, hu, _⟩ := hw.box
 have c5 := (way_cells hb).2.2.2.2.2
 have u := hu.cell n ht
 have hand := and_u64 (rows.getD n 0) (leadN rows n rows.length) (hlt n ht) (leadN_lt _ _ _ (by omega))
 have CL : ∀ q, Calls Tryd.prog 52 #[.pointer (some ⟨wb, 0, none⟩), .int .i64 n] (w.drewN q) fun e w' => e = .returned (.int .u64 ((leadN rows n rows.length : Nat) : Int)) ∧ w.drewN q = w' :=
  fun q => leading_any wb x rows n _ (hw.keep ((Keeps.refl [] w).drewN q)) hl hn hlt (by omega)
 rw [← hl] at c5 hn
 have hp : (rows.getD n 0 &&& leadN rows n rows.length : Nat) = partN rows n := rfl
 rw [hp] at hand
 obtain ⟨R, hR⟩ : ∃ R, R = partN rows n := ⟨_, rfl⟩
 obtain ⟨r1, hr1⟩ : ∃ r1, r1 = rows.getD n 0 := ⟨_, rfl⟩
 obtain ⟨r2, hr2⟩ : ∃ r2, r2 = leadN rows n rows.length := ⟨_, rfl⟩
 rw [← hR]
 simp only [← hR, ← hr1, ← hr2] at hand u CL
 have HC := Lib.hid CL
 clear hw hb hu hl hlt hp hR hr1 hr2 CL
 go_enter Tryd.func38, Tryd.ntmps38
 go_wp2
 go_quiet ((go_at_call 52; exact quiet_left (HC.out _)))
 go_wp2
 go_ret
 exact ⟨rfl, (Keeps.refl [] w).drewN _⟩
theorem reached_any (wb : Nat) (x : Gr) (rows : List Nat) (w : World) (hw : WaysAt w wb x rows) (hl : rows.length = x.nodes.length) (hf : x.first.length = x.nodes.length) (hn : x.nodes.length ≤ 64) (hlt : ∀ n, n < rows.length → rows.getD n 0 < 2 ^ 64) :
  Calls Tryd.prog 18 #[.pointer (some ⟨wb, 0, none⟩)] w fun e w' => e = .returned (.int .u64 ((reachN rows x.first rows.length : Nat) : Int)) ∧ w = w' := by
 obtain ⟨ob, rb, hb, hu, _⟩ := hw.box
 have c5 := (way_cells hb).2.2.2.2.2
 have c2 := (way_cells hb).2.2.1
 have hfi := hw.gr.first
 obtain ⟨ca, cc, cls, na, nc, nodes, fa, fc, first, ea, ec, edges⟩ := x
 simp only at *
 rw [hf, ← hl] at c2
 rw [← hl] at c5 hn hf
 obtain ⟨R, hR⟩ : ∃ R, R = reachN rows first rows.length := ⟨_, rfl⟩
 rw [← hR]
 have HR := Lib.hid hR
 have HU := Lib.hid hu
 have HLT := Lib.hid hlt
 have HF := Lib.hid hf
 have HFI := Lib.hid hfi
 clear hw hb hu hl hlt hR hf hfi
 go_enter Tryd.func18, Tryd.ntmps18
 go_wp2
 go_loopw [12, 3] (fun i a wr => ∃ k : Nat, k ≤ rows.length ∧ i = .int .i64 k ∧ a = .int .u64 ((reachN rows first k : Nat) : Int) ∧ w = wr) (fun i _ _ => rows.length - (intOf i).toNat)
 case atStart => exact ⟨0, Nat.zero_le _, rfl, rfl, rfl⟩
 case round =>
  obtain ⟨k, hk, rfl, rfl, rfl⟩ := hrel
  by_cases hlt : k < rows.length
  ·have u := HU.out.cell k hlt
   obtain ⟨b, off, rfl, hc⟩ := HFI.out (by have := HF.out; omega)
   have f0 := hc k (by have := HF.out; omega)
   have hst : reachN rows first (k + 1) = if first.getD k 0 ≠ 0 then reachN rows first k ||| rows.getD k 0 else reachN rows first k := rfl
   have hor := or_u64 (reachN rows first k) (rows.getD k 0) (reachN_lt rows first HLT.out k (by omega)) (HLT.out k hlt)
   obtain ⟨r, hr⟩ : ∃ r, r = rows.getD k 0 := ⟨_, rfl⟩
   obtain ⟨v, hv⟩ : ∃ v, v = first.getD k 0 := ⟨_, rfl⟩
   simp only [← hr, ← hv] at u f0 hst hor
   have HST := Lib.hid hst
   clear hst hr hv hc
   obtain ⟨q, hq⟩ : ∃ q, q = reachN rows first k := ⟨_, rfl⟩
   simp only [← hq] at hor HST ⊢
   have HQ := Lib.hid hq
   clear hq
   by_cases h0 : v = 0
   ·have HS2 := Lib.hid (show reachN rows first (k + 1) = q by rw [HST.out, if_neg (by simp [h0])])
    have h0' : (v != 0) = false := by simp [h0]
    go_wp2
    go_roundw
    case rel => exact ⟨k + 1, by omega, by go_num, by rw [HS2.out], (by first | rfl | trivial)⟩
    case measure => simp [intOf]; omega
   ·have HS2 := Lib.hid (show reachN rows first (k + 1) = q ||| r by rw [HST.out, if_pos h0])
    have h0' : (v != 0) = true := by simp [h0]
    go_wp2
    go_roundw
    case rel => exact ⟨k + 1, by omega, by go_num, by rw [HS2.out], (by first | rfl | trivial)⟩
    case measure => simp [intOf]; omega
  ·obtain rfl : k = rows.length := by omega
   rw [← HR.out]
   go_wp2
   go_ret
   exact ⟨rfl, rfl⟩
def NextOK (W0 : World) (OKs : Tri → Prop) (nf : Nat) (ncap : Array Value) (succ : Tri → Int → Tri → Prop) : Prop :=
 ∀ (p9 p11 p12 : Nat) (J : List (Int × Tri) → List Nat → World → Prop), NameOK W0 OKs #[.pointer (some ⟨p9, 0, none⟩), .pointer (some ⟨p11, 0, none⟩), .pointer (some ⟨p12, 0, none⟩)] J → ∀ s l0 U W, OKs s → J l0 U W →
  Calls Tryd.prog nf (#[triv s, .func (.func 58) #[] #[.pointer (some ⟨p9, 0, none⟩), .pointer (some ⟨p11, 0, none⟩), .pointer (some ⟨p12, 0, none⟩)]] ++ ncap) W fun e W' => e = .returned (.tuple #[]) ∧
   ∃ l U', J (l0 ++ l) U' W' ∧ (∀ x ∈ U', x ∈ U ∨ W.heap.size ≤ x) ∧ Keeps U W W' ∧ ∀ c t, (c, t) ∈ l ↔ succ s c t
theorem MapAt.range {P : Program} {k e t b n : Nat} {w : World} {g : Value → Option Value} (h : MapAt w P k b n g) (K : Maps.Keyed P k) (ht : P.underlying t = some (.map k e)) :
  ∃ w' cnt, (Instr.range t (.map (some b))).run P w = .ok (.pointer (some ⟨w.heap.size, 0, none⟩)) w' ∧ RangeAt w' P k b w.heap.size n g (fun v => (g v).isSome) cnt ∧ Keeps [] w w' ∧ w'.heap.size = w.heap.size + 1 := by
 obtain ⟨D, h1, h2⟩ := h
 obtain ⟨w', hrun, hr, hg, hs⟩ := h1.range K ht
 refine ⟨w', _, hrun, ⟨D, _, hr, h2, fun key kl hk => ?_⟩, Keeps.of_grown hg, hs⟩
 have hk2 := h2 key kl hk
 cases hgk : g key with
 | none => rw [hgk] at hk2; show (g key).isSome = _; rw [hgk]; exact (Maps.has_false_of_atKey hk2).symm
 | some v => rw [hgk] at hk2; show (g key).isSome = _; rw [hgk]; exact (Maps.has_true_of_atKey hk2).symm
theorem wp_range {P : Program} {w : World} {o : Oper} {a : Act} {K : Act → World → Prop} {Q : Exit → Act → World → Prop} (m : Operand) (t : TypeId) (hop : o.op = Op.range t m) (k e : TypeId) (Kd : Maps.Keyed P k) (ht : P.underlying t = some (.map k e))
  (b n : Nat) (g : Value → Option Value) (hm : a.eval m = .map (some b)) (h : MapAt w P k b n g)
  (hK : ∀ w' cnt, RangeAt w' P k b w.heap.size n g (fun v => (g v).isSome) cnt → Keeps [] w w' → w'.heap.size = w.heap.size + 1 → K (a.put o.dst (.pointer (some ⟨w.heap.size, 0, none⟩))) w') : Oper.wp P o a w K Q := by
 obtain ⟨w', cnt, hrun, r1, r2, r3⟩ := h.range Kd ht
 unfold Oper.wp
 simp [execOp, hop, hm, hrun, Result.andThen]
 exact hK w' cnt r1 r2 r3
theorem isKey_int {v : Value} (h : IsKey Tryd.prog 3 v) : ∃ c, v = .int .i64 c ∧ M64 c := by
 obtain ⟨kl, h⟩ := h
 obtain ⟨c, rfl, _, hw⟩ := Maps.keyOf_int_inv Tryd.underlying3 h
 refine ⟨c, rfl, ?_⟩
 have e : IntKind.i64.min = -9223372036854775808 := rfl
 have e2 : IntKind.i64.max = 9223372036854775807 := rfl
 simp [Lit.wf, e, e2] at hw
 exact hw
def DOK (N : Nat) (s : Tri) : Prop := (0 ≤ s.1 ∧ s.1 < N) ∧ (0 ≤ s.2.1 ∧ s.2.1 < N) ∧ (s.2.2 = 0 ∨ s.2.2 = 1)
def dTo (s : Tri) (e f : E4) : Tri := (min e.tt f.tt, max e.tt f.tt, if e ≠ f ∨ 1 < e.ws then 1 else s.2.2)
def DSucc (es : List E4) (part : Nat) (s : Tri) (c : Int) (t : Tri) : Prop :=
 ∃ e ∈ es, ∃ f ∈ es, e.fr = s.1 ∧ f.fr = s.2.1 ∧ e.cl = c ∧ f.cl = c ∧ part.testBit e.tt.toNat = true ∧ part.testBit f.tt.toNat = true ∧ t = dTo s e f
theorem M64.small {x : Int} (h0 : 0 ≤ x) (h1 : x ≤ 1000000000000) : M64 x := ⟨by omega, by omega⟩
theorem WaysAt.edges {w : World} {x : Gr} {ob : Nat} (h : ∀ n, n < x.nodes.length → ∃ mb g k, w.cell? ⟨ob, n, none⟩ = some (.map (some mb)) ∧ MapAt w Tryd.prog 3 mb k g ∧ k ≤ 100000 ∧
   ∀ c, (sel x.edges n c = [] → g (.int .i64 c) = none) ∧ (sel x.edges n c ≠ [] → ∃ a cc, g (.int .i64 c) = some (.slice a (sel x.edges n c).length cc) ∧ EdIn w a (sel x.edges n c))) {n : Nat} (hn : n < x.nodes.length) :
  ∃ mb g k, w.cell? ⟨ob, n, none⟩ = some (.map (some mb)) ∧ MapAt w Tryd.prog 3 mb k g ∧ k ≤ 100000 ∧ ∀ c, ((g (.int .i64 c)).isSome = true ↔ sel x.edges n c ≠ []) ∧ ∃ a cc, (g (.int .i64 c)).getD (.slice none 0 0) = .slice a (sel x.edges n c).length cc ∧ EdIn w a (sel x.edges n c) := by
 obtain ⟨mb, g, k, h1, h2, h3, h4⟩ := h n hn
 refine ⟨mb, g, k, h1, h2, h3, fun c => ?_⟩
 by_cases hs : sel x.edges n c = []
 ·rw [(h4 c).1 hs]
  refine ⟨by simp [hs], none, 0, by simp [hs], fun h0 => ?_⟩
  rw [hs] at h0
  simp at h0
 ·obtain ⟨a, cc, h5, h6⟩ := (h4 c).2 hs
  rw [h5]
  exact ⟨by simp [hs], a, cc, rfl, h6⟩
end Go.Proofs.YtphnbmdcgcchaaaDoor
