/- Part 9 of the proof. No condition: every lemma says its own. -/
import Derived.Test.YtkekenaamnhbhaaGreatZsah
import Derived.Test.YtkekenaamnhbhaaGreatZsag
namespace Go.Proofs.YtkekenaamnhbhaaGreat
open Go.RowKit Go.Sort Go.BigFrame
open Go.RowKit Go.BigFrame
set_option maxRecDepth 100000
set_option maxHeartbeats 16000000
def leadN (rows : List Nat) (to_ : Nat) : Nat → Nat
 | 0 => 0
 | k + 1 => if (rows.getD k 0).testBit to_ then leadN rows to_ k ||| 2 ^ k else leadN rows to_ k
theorem leadN_lt (rows : List Nat) (to_ : Nat) : ∀ k, k ≤ 64 → leadN rows to_ k < 2 ^ 64
 | 0, _ => by simp [leadN]
 | k + 1, h => by
  unfold leadN
  split
  ·exact or_lt (leadN_lt rows to_ k (by omega)) (two_pow_lt (by omega))
  ·exact leadN_lt rows to_ k (by omega)
def partN (rows : List Nat) (n : Nat) : Nat := rows.getD n 0 &&& leadN rows n rows.length
theorem partN_lt (rows : List Nat) (n : Nat) (h : rows.length ≤ 64) : partN rows n < 2 ^ 64 := Nat.lt_of_le_of_lt Nat.and_le_right (leadN_lt _ _ _ h)
theorem leading_any (wb : Nat) (x : Gr) (rows : List Nat) (t : Nat) (w : World) (hw : WaysAt w wb x rows) (hl : rows.length = x.nodes.length) (hn : x.nodes.length ≤ 64) (hlt : ∀ n, n < rows.length → rows.getD n 0 < 2 ^ 64) (ht : t < 64) :
  Calls Tryz.prog 113 #[.pointer (some ⟨wb, 0, none⟩), .int .i64 t] w fun e w' => e = .returned (.int .u64 ((leadN rows t rows.length : Nat) : Int)) ∧ w = w' := by
 obtain ⟨ob, rb, hb, hu, _⟩ := hw.box
 have c5 := (way_cells hb).2.2.2.2.2
 rw [← hl] at c5 hn
 obtain ⟨R, hR⟩ : ∃ R, R = leadN rows t rows.length := ⟨_, rfl⟩
 rw [← hR]
 have HR := gI hR
 have HU := gI hu
 have HLT := gI hlt
 clear hw hb hu hl hlt hR
 go_enter Tryz.func113, Tryz.ntmps113
 go_wp2
 go_loopw [13, 5] (fun i a wr => ∃ k : Nat, k ≤ rows.length ∧ i = .int .i64 k ∧ a = .int .u64 ((leadN rows t k : Nat) : Int) ∧ w = wr) (fun i _ _ => rows.length - (intOf i).toNat)
 case atStart => exact ⟨0, Nat.zero_le _, rfl, rfl, rfl⟩
 case round =>
  obtain ⟨k, hk, rfl, rfl, rfl⟩ := hrel
  by_cases hlt : k < rows.length
  ·have u := HU.out.cell k hlt
   have hh := gI (fun W => hasN_any (rows.getD k 0) t W ht (HLT.out k hlt))
   have ho := gI (fun W => one_any k W (by omega))
   have hst : leadN rows t (k + 1) = if (rows.getD k 0).testBit t then leadN rows t k ||| 2 ^ k else leadN rows t k := rfl
   have hor := or_u64 (leadN rows t k) (2 ^ k) (leadN_lt rows t k (by omega)) (two_pow_lt (by omega))
   obtain ⟨tb, htb⟩ : ∃ tb, tb = (rows.getD k 0).testBit t := ⟨_, rfl⟩
   obtain ⟨r, hr⟩ : ∃ r, r = rows.getD k 0 := ⟨_, rfl⟩
   simp only [← htb] at hh hst
   simp only [← hr] at u hh
   have HST := gI hst
   clear hst htb hr
   obtain ⟨q, hq⟩ : ∃ q, q = leadN rows t k := ⟨_, rfl⟩
   obtain ⟨p, hp⟩ : ∃ p, p = 2 ^ k := ⟨_, rfl⟩
   simp only [← hq, ← hp] at hor HST ho ⊢
   have HQ := gI hq
   clear hq hp
   cases tb with
   | true =>
    have HS2 := gI (show leadN rows t (k + 1) = q ||| p by rw [HST.out]; rfl)
    go_wp2_with (first | (go_at_call 99; refine (hh.out _).mono ?_; rintro e w' ⟨rfl, rfl⟩) | (go_at_call 98; refine (ho.out _).mono ?_; rintro e w' ⟨rfl, rfl⟩))
    go_roundw
    case rel => exact ⟨k + 1, by omega, by go_num, by rw [HS2.out], (by first | rfl | trivial)⟩
    case measure => simp [intOf]; omega
   | false =>
    have HS2 := gI (show leadN rows t (k + 1) = q by rw [HST.out]; rfl)
    go_wp2_with (go_at_call 99; refine (hh.out _).mono ?_; rintro e w' ⟨rfl, rfl⟩)
    go_roundw
    case rel => exact ⟨k + 1, by omega, by go_num, by rw [HS2.out], (by first | rfl | trivial)⟩
    case measure => simp [intOf]; omega
  ·obtain rfl : k = rows.length := by omega
   rw [← HR.out]
   go_wp2
   go_ret
   exact ⟨rfl, rfl⟩
theorem part_any (wb : Nat) (x : Gr) (rows : List Nat) (n : Nat) (w : World) (hw : WaysAt w wb x rows) (hl : rows.length = x.nodes.length) (hn : x.nodes.length ≤ 64) (hlt : ∀ n, n < rows.length → rows.getD n 0 < 2 ^ 64) (ht : n < rows.length) :
  Calls Tryz.prog 100 #[.pointer (some ⟨wb, 0, none⟩), .int .i64 n] w fun e w' => e = .returned (.int .u64 ((partN rows n : Nat) : Int)) ∧ Keeps [] w w' := by
 obtain ⟨ob, rb, hb, hu, _⟩ := hw.box
 have c5 := (way_cells hb).2.2.2.2.2
 have u := hu.cell n ht
 have hand := and_u64 (rows.getD n 0) (leadN rows n rows.length) (hlt n ht) (leadN_lt _ _ _ (by omega))
 have CL : ∀ q, Calls Tryz.prog 113 #[.pointer (some ⟨wb, 0, none⟩), .int .i64 n] (w.drewN q) fun e w' => e = .returned (.int .u64 ((leadN rows n rows.length : Nat) : Int)) ∧ w.drewN q = w' :=
  fun q => leading_any wb x rows n _ (hw.keep ((Keeps.refl [] w).drewN q)) hl hn hlt (by omega)
 rw [← hl] at c5 hn
 have hp : (rows.getD n 0 &&& leadN rows n rows.length : Nat) = partN rows n := rfl
 rw [hp] at hand
 obtain ⟨R, hR⟩ : ∃ R, R = partN rows n := ⟨_, rfl⟩
 obtain ⟨r1, hr1⟩ : ∃ r1, r1 = rows.getD n 0 := ⟨_, rfl⟩
 obtain ⟨r2, hr2⟩ : ∃ r2, r2 = leadN rows n rows.length := ⟨_, rfl⟩
 rw [← hR]
 simp only [← hR, ← hr1, ← hr2] at hand u CL
 have HC := gI CL
 clear hw hb hu hl hlt hp hR hr1 hr2 CL
 go_enter Tryz.func100, Tryz.ntmps100
 go_wp2
 go_quiet ((go_at_call 113; exact quiet_left (HC.out _)))
 go_wp2
 go_ret
 exact ⟨rfl, (Keeps.refl [] w).drewN _⟩
def bu (l : List Nat) : List Value := l.map fun r => .int .u64 (r : Nat)
def bi (l : List Int) : List Value := l.map (Value.int .i64)
structure Pt where
 na : Option Nat
 nc : Nat
 nodes : List Int
 loop : Bool
 leads : Bool
 opn : Bool
def Pt.row (p : Pt) : List Value := [sv p.na p.nodes.length p.nc, .bool p.loop, .bool p.leads, .bool p.opn]
def ptRow (ps : List Pt) : List Value := ps.flatMap Pt.row
theorem ptRow_length : ∀ ps : List Pt, (ptRow ps).length = ps.length * 4
 | [] => rfl
 | p :: ps => by
  have ih := ptRow_length ps
  simp only [ptRow, List.flatMap_cons, List.length_append, List.length_cons] at ih ⊢
  rw [ih]
  simp only [Pt.row, List.length_cons, List.length_nil]
  omega
theorem ptRow_get {d : Pt} : ∀ {ps : List Pt} {i k : Nat}, i < ps.length → k < 4 → (ptRow ps)[i * 4 + k]? = (ps.getD i d).row[k]?
 | [], _, _, h, _ => by simp at h
 | p :: ps, 0, k, _, hk => by
  simp only [ptRow, List.flatMap_cons, Nat.zero_mul, Nat.zero_add, List.getD_cons_zero]
  exact List.getElem?_append_left (by simp only [Pt.row, List.length_cons, List.length_nil]; omega)
 | p :: ps, i + 1, k, h, hk => by
  have ih := ptRow_get (d := d) (ps := ps) (i := i) (k := k) (by simp at h; omega) hk
  simp only [ptRow, List.flatMap_cons, List.getD_cons_succ] at ih ⊢
  rw [List.getElem?_append_right (by simp only [Pt.row, List.length_cons, List.length_nil]; omega), show (i + 1) * 4 + k - p.row.length = i * 4 + k by simp only [Pt.row, List.length_cons, List.length_nil]; omega]
  exact ih
def bgRow (x : Gr) (rb ob : Nat) (pa : Option Nat) (pl pc : Nat) : List Value := x.row ++ [.slice (some ⟨rb, 0, none⟩) x.nodes.length x.nodes.length, .slice (some ⟨ob, 0, none⟩) x.nodes.length x.nodes.length, sv pa pl pc]
structure BG (w : World) (gb : Nat) (x : Gr) (rb ob : Nat) (pa : Option Nat) (pc : Nat) (rows : List Nat) (of : List Int) (ps : List Pt) : Prop where
 gr : GrIn w x
 box : w.heap[gb]? = some (.cells (bgRow x rb ob pa ps.length pc).toArray 99 (0, 0))
 rw : SliceAt w 76 1 (some rb) x.nodes.length x.nodes.length (bu rows)
 ofs : SliceAt w 3 1 (some ob) x.nodes.length x.nodes.length (bi of)
 prt : SliceAt w 96 4 pa ps.length pc (ptRow ps)
 nds : ∀ p ∈ ps, SliceAt w 3 1 p.na p.nodes.length p.nc (bi p.nodes)
theorem BG.keep {w w' : World} {gb : Nat} {x : Gr} {rb ob : Nat} {pa : Option Nat} {pc : Nat} {rows : List Nat} {of : List Int} {ps : List Pt} (h : BG w gb x rb ob pa pc rows of ps) (k : Keeps [] w w') : BG w' gb x rb ob pa pc rows of ps :=
 ⟨h.gr.keep k, k.heap h.box (by simp), h.rw.keep k (by simp), h.ofs.keep k (by simp), h.prt.keep k (by simp), fun p hp => (h.nds p hp).keep k (by simp)⟩
theorem bg_cells {w : World} {b t : Nat} {x : Gr} {rb ob : Nat} {pa : Option Nat} {pl pc : Nat} (h : w.heap[b]? = some (.cells (bgRow x rb ob pa pl pc).toArray t (0, 0))) :
  (w.cell? ⟨b, 0, none⟩ = some (.slice x.ca x.cls.length x.cc) ∧ w.cell? ⟨b, 1, none⟩ = some (.slice x.na x.nodes.length x.nc) ∧ w.cell? ⟨b, 2, none⟩ = some (.slice x.fa x.first.length x.fc) ∧ w.cell? ⟨b, 3, none⟩ = some (.slice x.ea x.edges.length x.ec)) ∧
  w.cell? ⟨b, 4, none⟩ = some (.slice (some ⟨rb, 0, none⟩) x.nodes.length x.nodes.length) ∧ w.cell? ⟨b, 5, none⟩ = some (.slice (some ⟨ob, 0, none⟩) x.nodes.length x.nodes.length) ∧ w.cell? ⟨b, 6, none⟩ = some (sv pa pl pc) := by
 simp [World.cell?, h, bgRow, Gr.row]
theorem bu_cell {w : World} {e rb n c : Nat} {rows : List Nat} (h : SliceAt w e 1 (some rb) n c (bu rows)) (i : Nat) (hi : i < rows.length) : w.cell? ⟨rb, i, none⟩ = some (.int .u64 ((rows.getD i 0 : Nat) : Int)) := by
 rw [h.cell i (by simpa [bu] using hi)]
 simp [bu, List.getElem?_eq_getElem hi]
theorem bi_cell {w : World} {e rb n c : Nat} {l : List Int} (h : SliceAt w e 1 (some rb) n c (bi l)) (i : Nat) (hi : i < l.length) : w.cell? ⟨rb, i, none⟩ = some (.int .i64 (l.getD i 0)) := by
 rw [h.cell i (by simpa [bi] using hi)]
 simp [bi, List.getElem?_eq_getElem hi]
theorem bit_u64 (s n : Nat) (hs : s < 2 ^ 64) : bits BinOp.and IntKind.u64 ((s : Int) / 2 ^ n) 1 = (s : Int) / 2 ^ n % 2 := by
 have e : (s : Int) / 2 ^ n = ((s / 2 ^ n : Nat) : Int) := by norm_cast
 have h : s / 2 ^ n ≤ s := Nat.div_le_self _ _
 rw [e]
 generalize s / 2 ^ n = q at *
 exact and_one_u64 _ (by omega) (by omega)
theorem testBit_div0 (s n : Nat) : (((s : Int) / 2 ^ n % 2 == 0)) = !s.testBit n := by
 rw [← testBit_div s n]
 simp [bne]
def pt0 : Pt := ⟨none, 0, [], false, false, false⟩
theorem pt_cells {w : World} {e : Nat} {pa : Option Nat} {pc : Nat} {ps : List Pt} (h : SliceAt w e 4 pa ps.length pc (ptRow ps)) {i : Nat} (hi : i < ps.length) :
  ∃ pb, pa = some pb ∧ w.cell? ⟨pb, i * 4, none⟩ = some (sv (ps.getD i pt0).na (ps.getD i pt0).nodes.length (ps.getD i pt0).nc) ∧ w.cell? ⟨pb, i * 4 + 1, none⟩ = some (.bool (ps.getD i pt0).loop) ∧
   w.cell? ⟨pb, i * 4 + 2, none⟩ = some (.bool (ps.getD i pt0).leads) ∧ w.cell? ⟨pb, i * 4 + 3, none⟩ = some (.bool (ps.getD i pt0).opn) := by
 cases pa with
 | none => have := h.2.1; omega
 | some pb =>
  have hl := ptRow_length ps
  have key : ∀ k, k < 4 → ∀ v, (ps.getD i pt0).row[k]? = some v → w.cell? ⟨pb, i * 4 + k, none⟩ = some v := fun k hk v hv => by
   have hlt : i * 4 + k < (ptRow ps).length := by omega
   rw [h.cell (i * 4 + k) hlt]
   have e := ptRow_get (d := pt0) hi hk
   rw [hv, List.getElem?_eq_getElem hlt] at e
   exact e
  exact ⟨pb, rfl, key 0 (by omega) _ rfl, key 1 (by omega) _ rfl, key 2 (by omega) _ rfl, key 3 (by omega) _ rfl⟩
theorem plus_any (a b : Int) (w : World) (h0 : 0 ≤ a) (h1 : a ≤ 1099511627777) (h2 : 0 ≤ b) (h3 : b ≤ 1099511627777) :
  Calls Tryz.prog 71 #[.int .i64 a, .int .i64 b] w fun e w' => e = .returned (.int .i64 (min (a + b) 1099511627777)) ∧ w = w' := by
 obtain ⟨R, hR⟩ : ∃ R, R = min (a + b) 1099511627777 := ⟨_, rfl⟩
 rw [← hR]
 have hw : IntKind.i64.wrap (a + b) = a + b := IntWalk.i64_in _ (by omega)
 by_cases hb : 1099511627777 < a + b
 ·have HR := gI (show R = 1099511627777 by rw [hR]; omega)
  clear hR
  go_enter Tryz.func71, Tryz.ntmps71
  go_wp2
  go_ret
  exact ⟨by rw [HR.out]; rfl, rfl⟩
 ·have HR := gI (show R = a + b by rw [hR]; omega)
  clear hR
  go_enter Tryz.func71, Tryz.ntmps71
  go_wp2
  go_ret
  exact ⟨by rw [HR.out]; rfl, rfl⟩
def riseP (ps : List Pt) (f t : Nat) : Int := if (ps.getD f pt0).opn && (ps.getD t pt0).leads then 1 else 0
theorem rise_any (w : World) (gb : Nat) (x : Gr) (rb ob : Nat) (pa : Option Nat) (pc : Nat) (rows : List Nat) (of : List Int) (ps : List Pt) (h : BG w gb x rb ob pa pc rows of ps) (f t : Nat) (hf : f < ps.length) (ht : t < ps.length) :
  Calls Tryz.prog 72 #[.pointer (some ⟨gb, 0, none⟩), .int .i64 f, .int .i64 t] w fun e w' => e = .returned (.int .i64 (riseP ps f t)) ∧ w = w' := by
 obtain ⟨_, _, _, c6⟩ := bg_cells h.box
 obtain ⟨pb, rfl, _, _, _, f3⟩ := pt_cells h.prt hf
 obtain ⟨pb2, e2, _, _, t2, _⟩ := pt_cells h.prt ht
 obtain rfl := Option.some.inj e2
 have HR := gI (show riseP ps f t = if (ps.getD f pt0).opn && (ps.getD t pt0).leads then 1 else 0 from rfl)
 obtain ⟨R, hR⟩ : ∃ R, R = riseP ps f t := ⟨_, rfl⟩
 rw [← hR] at HR ⊢
 obtain ⟨o, ho⟩ : ∃ o, o = (ps.getD f pt0).opn := ⟨_, rfl⟩
 obtain ⟨l, hl⟩ : ∃ l, l = (ps.getD t pt0).leads := ⟨_, rfl⟩
 rw [← ho] at f3 HR
 rw [← hl] at t2 HR
 obtain ⟨K, hK⟩ : ∃ K, K = ps.length := ⟨_, rfl⟩
 rw [← hK] at c6 hf ht
 simp only [sv, Option.map_some] at c6
 clear h e2 ho hl hK hR
 cases o with
 | false =>
  have HE := gI (show R = 0 by rw [HR.out]; rfl)
  go_enter Tryz.func72, Tryz.ntmps72
  go_wp2
  go_ret
  exact ⟨by rw [HE.out]; rfl, rfl⟩
 | true =>
  cases l with
  | false =>
   have HE := gI (show R = 0 by rw [HR.out]; rfl)
   go_enter Tryz.func72, Tryz.ntmps72
   go_wp2
   go_ret
   exact ⟨by rw [HE.out]; rfl, rfl⟩
  | true =>
   have HE := gI (show R = 1 by rw [HR.out]; rfl)
   go_enter Tryz.func72, Tryz.ntmps72
   go_wp2
   go_ret
   exact ⟨by rw [HE.out]; rfl, rfl⟩
def degK (of ranks : List Int) (ps : List Pt) : Nat → Int × Bool
 | 0 => (0, false)
 | k + 1 => if 0 ≤ of.getD k 0 then (max (degK of ranks ps k).1 (ranks.getD k 0), (degK of ranks ps k).2 || (ps.getD (of.getD k 0).toNat pt0).loop) else degK of ranks ps k
def degreeP (of ranks : List Int) (ps : List Pt) : Int := if (degK of ranks ps of.length).2 then (degK of ranks ps of.length).1 + 1 else 0
theorem degK_bd {of ranks : List Int} {ps : List Pt} (h : ∀ i, 0 ≤ ranks.getD i 0 ∧ ranks.getD i 0 ≤ 1000000) : ∀ k, 0 ≤ (degK of ranks ps k).1 ∧ (degK of ranks ps k).1 ≤ 1000000
 | 0 => by simp [degK]
 | k + 1 => by
  have ih := degK_bd h (of := of) (ps := ps) k
  have := h k
  simp only [degK]
  split
  ·simp only; omega
  ·exact ih
set_option linter.unusedSimpArgs false in
theorem degree_any (w : World) (gb : Nat) (x : Gr) (rb ob : Nat) (pa : Option Nat) (pc : Nat) (rows : List Nat) (of : List Int) (ps : List Pt) (h : BG w gb x rb ob pa pc rows of ps) (kb : Nat) (ranks : List Int)
  (hk : SliceAt w 3 1 (some kb) x.nodes.length x.nodes.length (bi ranks)) (ho : of.length = x.nodes.length) (hr : ranks.length = x.nodes.length) (hN : x.nodes.length ≤ 64) (hof : ∀ i, of.getD i 0 < ps.length) (hrk : ∀ i, 0 ≤ ranks.getD i 0 ∧ ranks.getD i 0 ≤ 1000000) :
  Calls Tryz.prog 46 #[.pointer (some ⟨gb, 0, none⟩), .slice (some ⟨kb, 0, none⟩) x.nodes.length x.nodes.length] w fun e w' => e = .returned (.int .i64 (degreeP of ranks ps)) ∧ w = w' := by
 obtain ⟨_, _, c5, c6⟩ := bg_cells h.box
 have HO := gI (fun i hi => bi_cell h.ofs i hi)
 have HK := gI (fun i hi => bi_cell hk i hi)
 have HPT := gI (fun i (hi : i < ps.length) => pt_cells h.prt hi)
 rw [← ho] at c5 hr hN ⊢
 have HRL := gI hr
 have HBD := gI (degK_bd (of := of) (ps := ps) hrk)
 have HRK := gI hrk
 have HOF := gI hof
 obtain ⟨L, hL⟩ : ∃ L, L = of.length := ⟨_, rfl⟩
 have HR := gI (show degreeP of ranks ps = if (degK of ranks ps L).2 then (degK of ranks ps L).1 + 1 else 0 by rw [hL]; rfl)
 obtain ⟨R, hR⟩ : ∃ R, R = degreeP of ranks ps := ⟨_, rfl⟩
 rw [← hR] at HR ⊢
 have HL := gI hL
 rw [← hL] at c5 hN ⊢
 obtain ⟨K, hK⟩ : ∃ K, K = ps.length := ⟨_, rfl⟩
 have HKL := gI hK
 rw [← hK] at c6
 clear h hk hr ho hof hrk hL hR hK
 go_enter Tryz.func46, Tryz.ntmps46
 go_upto_region 3 with fail
 go_loopw [14, 5, 6] (fun i a l wr => ∃ k : Nat, k ≤ L ∧ i = .int .i64 k ∧ a = .int .i64 (degK of ranks ps k).1 ∧ l = .bool (degK of ranks ps k).2 ∧ w = wr) (fun i _ _ _ => L - (intOf i).toNat)
 case atStart => exact ⟨0, Nat.zero_le _, rfl, rfl, rfl, rfl⟩
 case round =>
  obtain ⟨k, hk, rfl, rfl, rfl, rfl⟩ := hrel
  have hbd := HBD.out k
  have HS := gI (show degK of ranks ps (k + 1) = if 0 ≤ of.getD k 0 then (max (degK of ranks ps k).1 (ranks.getD k 0), (degK of ranks ps k).2 || (ps.getD (of.getD k 0).toNat pt0).loop) else degK of ranks ps k from rfl)
  obtain ⟨p, hp⟩ : ∃ p, p = degK of ranks ps k := ⟨_, rfl⟩
  rw [← hp] at hbd HS ⊢
  have HPK := gI hp
  clear hp
  obtain ⟨p1, p2⟩ := p
  simp only at hbd HS ⊢
  by_cases hkL : k < L
  ·have hki : (k : Int) < (L : Int) := by omega
   have o := HO.out k (by rw [← HL.out]; exact hkL)
   have r := HK.out k (by rw [HRL.out, ← HL.out]; exact hkL)
   have hrb := HRK.out k
   have hob := HOF.out k
   rw [← HKL.out] at hob
   obtain ⟨ok, hok⟩ : ∃ ok, ok = of.getD k 0 := ⟨_, rfl⟩
   obtain ⟨rk, hrk⟩ : ∃ rk, rk = ranks.getD k 0 := ⟨_, rfl⟩
   rw [← hok] at o HS hob
   rw [← hrk] at r HS hrb
   have hw1 : IntKind.i64.wrap ((k : Int) + 1) = (k : Int) + 1 := IntWalk.i64_in _ (by omega)
   clear hok hrk
   by_cases hneg : 0 ≤ ok
   ·obtain ⟨q, rfl⟩ := Int.eq_ofNat_of_zero_le hneg
    have hqK : q < K := by omega
    obtain ⟨pb, hpa, _, q1, _, _⟩ := HPT.out q (by rw [← HKL.out]; exact hqK)
    rw [hpa] at c6
    simp only [sv, Option.map_some] at c6
    rw [if_pos hneg, Int.toNat_natCast] at HS
    obtain ⟨lp, hlp⟩ : ∃ lp, lp = (ps.getD q pt0).loop := ⟨_, rfl⟩
    rw [← hlp] at q1 HS
    clear hlp hpa
    rcases Int.lt_or_le p1 rk with hm | hm
    ·have hm2 : ¬ rk ≤ p1 := by omega
     have hm3 : ¬ rk < p1 := by omega
     cases p2 with
     | true =>
      have HS2 := gI (show degK of ranks ps (k + 1) = (rk, true) by rw [HS.out, Int.max_eq_right (by omega)]; rfl)
      go_wp2
      go_roundw
      case rel => exact ⟨k + 1, by omega, by go_num, by rw [HS2.out], by rw [HS2.out], by trivial⟩
      case measure => simp [intOf]; omega
     | false =>
      have HS2 := gI (show degK of ranks ps (k + 1) = (rk, lp) by rw [HS.out, Int.max_eq_right (by omega)]; simp)
      go_wp2
      go_roundw
      case rel => exact ⟨k + 1, by omega, by go_num, by rw [HS2.out], by rw [HS2.out], by trivial⟩
      case measure => simp [intOf]; omega
    ·have hm2 : ¬ p1 < rk := by omega
     cases p2 with
     | true =>
      have HS2 := gI (show degK of ranks ps (k + 1) = (p1, true) by rw [HS.out, Int.max_eq_left (by omega)]; rfl)
      go_wp2
      go_roundw
      case rel => exact ⟨k + 1, by omega, by go_num, by rw [HS2.out], by rw [HS2.out], by trivial⟩
      case measure => simp [intOf]; omega
     | false =>
      have HS2 := gI (show degK of ranks ps (k + 1) = (p1, lp) by rw [HS.out, Int.max_eq_left (by omega)]; simp)
      go_wp2
      go_roundw
      case rel => exact ⟨k + 1, by omega, by go_num, by rw [HS2.out], by rw [HS2.out], by trivial⟩
      case measure => simp [intOf]; omega
   ·have HS2 := gI (show degK of ranks ps (k + 1) = (p1, p2) by rw [HS.out, if_neg hneg])
    go_wp2
    go_roundw
    case rel => exact ⟨k + 1, by omega, by go_num, by rw [HS2.out], by rw [HS2.out], by trivial⟩
    case measure => simp [intOf]; omega
  ·obtain rfl : k = L := by omega
   rw [← HPK.out] at HR
   have hw2 : IntKind.i64.wrap (p1 + 1) = p1 + 1 := IntWalk.i64_in _ (by omega)
   cases p2 with
   | true =>
    have HE := gI (show R = p1 + 1 by rw [HR.out]; rfl)
    go_wp2
    go_ret
    exact ⟨by rw [HE.out]; rfl, rfl⟩
   | false =>
    have HE := gI (show R = 0 by rw [HR.out]; rfl)
    go_wp2
    go_ret
    exact ⟨by rw [HE.out]; rfl, rfl⟩
section
structure BN (W0 w : World) (gb : Nat) (x : Gr) (rb ob : Nat) (pa : Option Nat) (pc : Nat) (rows : List Nat) (of : List Int) (ps : List Pt) : Prop where
 bg : BG w gb x rb ob pa pc rows of ps
 k : Keeps [] W0 w
 g0 : GrIn W0 x
 ng : W0.heap.size ≤ gb
 nr : W0.heap.size ≤ rb
 no : W0.heap.size ≤ ob
 np : ∀ pb, pa = some pb → W0.heap.size ≤ pb ∧ pb ≠ gb ∧ pb ≠ rb ∧ pb ≠ ob
 ne : gb ≠ rb ∧ gb ≠ ob ∧ rb ≠ ob
 nn : ∀ p ∈ ps, ∀ nb, p.na = some nb → nb ≠ gb ∧ nb ≠ rb ∧ nb ≠ ob ∧ pa ≠ some nb
variable {W0 w w' : World} {gb : Nat} {x : Gr} {rb ob : Nat} {pa : Option Nat} {pc : Nat} {rows : List Nat} {of : List Int} {ps : List Pt}
theorem BN.keep (h : BN W0 w gb x rb ob pa pc rows of ps) (k : Keeps [] w w') : BN W0 w' gb x rb ob pa pc rows of ps :=
 ⟨h.bg.keep k, h.k.trans k, h.g0, h.ng, h.nr, h.no, h.np, h.ne, h.nn⟩
theorem BN.lt (h : BN W0 w gb x rb ob pa pc rows of ps) : gb < w.heap.size ∧ rb < w.heap.size ∧ ob < w.heap.size ∧ (∀ pb, pa = some pb → pb < w.heap.size) ∧ ∀ p ∈ ps, ∀ nb, p.na = some nb → nb < w.heap.size :=
 ⟨lt_of_block h.bg.box, h.bg.rw.lt, h.bg.ofs.lt, fun pb e => by have h1 := h.bg.prt; rw [e] at h1; exact h1.lt, fun p hp nb e => by have h1 := h.bg.nds p hp; rw [e] at h1; exact h1.lt⟩
theorem BN.keepS {S : List Nat} (h : BN W0 w gb x rb ob pa pc rows of ps) (k : Keeps S w w') (hS : ∀ b ∈ S, W0.heap.size ≤ b ∧ b ≠ gb ∧ b ≠ rb ∧ b ≠ ob ∧ pa ≠ some b ∧ ∀ p ∈ ps, p.na ≠ some b) : BN W0 w' gb x rb ob pa pc rows of ps := by
 have K : Keeps [] W0 w' := h.k.after k (fun b hb => .inr (hS b hb).1)
 exact ⟨⟨h.g0.keep K, k.heap h.bg.box (fun hb => (hS _ hb).2.1 rfl), h.bg.rw.keep k (fun g e hb => by cases e; exact (hS _ hb).2.2.1 rfl), h.bg.ofs.keep k (fun g e hb => by cases e; exact (hS _ hb).2.2.2.1 rfl),
  h.bg.prt.keep k (fun g e hb => (hS _ hb).2.2.2.2.1 e), fun p hp => (h.bg.nds p hp).keep k (fun g e hb => (hS _ hb).2.2.2.2.2 p hp e)⟩, K, h.g0, h.ng, h.nr, h.no, h.np, h.ne, h.nn⟩
theorem BN.setOf (h : BN W0 w gb x rb ob pa pc rows of ps) (m : Nat) (v : Int) : BN W0 (w.setCell ⟨ob, m, none⟩ (.int .i64 v)) gb x rb ob pa pc rows (of.set m v) ps := by
 have k1 : Keeps [ob] w (w.setCell ⟨ob, m, none⟩ (.int .i64 v)) := (Keeps.refl [ob] w).setCell (by simp) _
 have K : Keeps [] W0 (w.setCell ⟨ob, m, none⟩ (.int .i64 v)) := h.k.after k1 (fun b hb => .inr (by simp at hb; subst hb; exact h.no))
 have hs := h.bg.ofs.set m (.int .i64 v)
 refine ⟨⟨h.g0.keep K, k1.heap h.bg.box (by simpa using h.ne.2.1), h.bg.rw.keep k1 (fun g e => by cases e; simpa using h.ne.2.2), by simpa [bi, List.map_set] using hs, h.bg.prt.keep k1 (fun g e => by simpa using (h.np g e).2.2.2), fun p hp => (h.bg.nds p hp).keep k1 (fun g e => by simpa using (h.nn p hp g e).2.2.1)⟩, K, h.g0, h.ng, h.nr, h.no, h.np, h.ne, h.nn⟩
theorem BN.setRow (h : BN W0 w gb x rb ob pa pc rows of ps) (m v : Nat) : BN W0 (w.setCell ⟨rb, m, none⟩ (.int .u64 (v : Nat))) gb x rb ob pa pc (rows.set m v) of ps := by
 have k1 : Keeps [rb] w (w.setCell ⟨rb, m, none⟩ (.int .u64 (v : Nat))) := (Keeps.refl [rb] w).setCell (by simp) _
 have K : Keeps [] W0 (w.setCell ⟨rb, m, none⟩ (.int .u64 (v : Nat))) := h.k.after k1 (fun b hb => .inr (by simp at hb; subst hb; exact h.nr))
 have hs := h.bg.rw.set m (.int .u64 (v : Nat))
 refine ⟨⟨h.g0.keep K, k1.heap h.bg.box (by simpa using h.ne.1), by simpa [bu, List.map_set] using hs, h.bg.ofs.keep k1 (fun g e => by cases e; simpa using Ne.symm h.ne.2.2), h.bg.prt.keep k1 (fun g e => by simpa using (h.np g e).2.2.1), fun p hp => (h.bg.nds p hp).keep k1 (fun g e => by simpa using (h.nn p hp g e).2.1)⟩, K, h.g0, h.ng, h.nr, h.no, h.np, h.ne, h.nn⟩
theorem ptRow_append (ps : List Pt) (p : Pt) : ptRow (ps ++ [p]) = ptRow ps ++ p.row := by simp [ptRow]
theorem bgRow_set (x : Gr) (rb ob : Nat) (pa : Option Nat) (pl pc : Nat) (v : Value) (g K c : Nat) (hv : v = .slice (some ⟨g, 0, none⟩) K c) : (bgRow x rb ob pa pl pc).toArray.setIfInBounds 6 v = (bgRow x rb ob (some g) K c).toArray := by
 subst hv
 simp [bgRow, Gr.row, sv]
theorem BN.push {w1 w2 : World} {p : Pt} {g c : Nat} (h : BN W0 w gb x rb ob pa pc rows of ps) (k1 : Keeps pa.toList w w1) (hs : SliceAt w1 96 4 (some g) (ps.length + 1) c (ptRow ps ++ p.row)) (hg : pa = some g ∨ w.heap.size ≤ g)
  (hp : SliceAt w 3 1 p.na p.nodes.length p.nc (bi p.nodes)) (hpn : ∀ nb, p.na = some nb → nb ≠ gb ∧ nb ≠ rb ∧ nb ≠ ob ∧ pa ≠ some nb)
  (hw : w2 = w1.setCell ⟨gb, 6, none⟩ (.slice (some ⟨g, 0, none⟩) (ps.length + 1) c)) : BN W0 w2 gb x rb ob (some g) c rows of (ps ++ [p]) := by
 subst hw
 have hlt := h.lt
 have hng : g ≠ gb ∧ g ≠ rb ∧ g ≠ ob := by
  rcases hg with e | e
  ·exact (h.np g e).2
  ·omega
 have k2 : Keeps [gb] w1 (w1.setCell ⟨gb, 6, none⟩ (.slice (some ⟨g, 0, none⟩) (ps.length + 1) c)) := (Keeps.refl [gb] w1).setCell (by simp) _
 have n1 : gb ∉ pa.toList := fun hm => (h.np gb (by simpa using hm)).2.1 rfl
 have n2 : rb ∉ pa.toList := fun hm => (h.np rb (by simpa using hm)).2.2.1 rfl
 have n3 : ob ∉ pa.toList := fun hm => (h.np ob (by simpa using hm)).2.2.2 rfl
 have K1 : Keeps [] W0 w1 := h.k.after k1 (fun b hb => .inr (h.np b (by simpa using hb)).1)
 have K : Keeps [] W0 (w1.setCell ⟨gb, 6, none⟩ (.slice (some ⟨g, 0, none⟩) (ps.length + 1) c)) := K1.after k2 (fun b hb => .inr (by simp at hb; subst hb; exact h.ng))
 have hb1 := k1.heap h.bg.box n1
 have hb2 := heap_setCell_same w1 gb 6 _ _ (.slice (some ⟨g, 0, none⟩) (ps.length + 1) c) hb1
 rw [bgRow_set x rb ob pa ps.length pc _ g (ps.length + 1) c rfl] at hb2
 have keep : ∀ (q : Pt), SliceAt w 3 1 q.na q.nodes.length q.nc (bi q.nodes) → (∀ nb, q.na = some nb → nb ≠ gb ∧ nb ≠ rb ∧ nb ≠ ob ∧ pa ≠ some nb) → SliceAt (w1.setCell ⟨gb, 6, none⟩ (.slice (some ⟨g, 0, none⟩) (ps.length + 1) c)) 3 1 q.na q.nodes.length q.nc (bi q.nodes) := fun q hq hqn =>
  (hq.keep k1 (fun nb e hm => (hqn nb e).2.2.2 (by simpa using hm))).keep k2 (fun nb e => by simpa using (hqn nb e).1)
 have hng2 : ∀ (q : Pt), SliceAt w 3 1 q.na q.nodes.length q.nc (bi q.nodes) → (∀ nb, q.na = some nb → nb ≠ gb ∧ nb ≠ rb ∧ nb ≠ ob ∧ pa ≠ some nb) → ∀ nb, q.na = some nb → nb ≠ gb ∧ nb ≠ rb ∧ nb ≠ ob ∧ some g ≠ some nb := fun q hq hqn nb e => by
  obtain ⟨a1, a2, a3, a4⟩ := hqn nb e
  refine ⟨a1, a2, a3, fun e2 => ?_⟩
  rw [e] at hq
  have h1 := hq.lt
  rcases hg with e3 | e3
  ·exact a4 (e3.trans e2)
  ·simp at e2; omega
 refine ⟨⟨h.g0.keep K, ?_, (h.bg.rw.keep k1 (fun b e => by cases e; exact n2)).keep k2 (fun b e => by cases e; simpa using Ne.symm h.ne.1), (h.bg.ofs.keep k1 (fun b e => by cases e; exact n3)).keep k2 (fun b e => by cases e; simpa using Ne.symm h.ne.2.1), ?_, fun q hq => ?_⟩, K, h.g0, h.ng, h.nr, h.no, ?_, h.ne, fun q hq => ?_⟩
 ·rw [hb2]; simp
 ·rw [ptRow_append, List.length_append, List.length_singleton]
  exact hs.keep k2 (fun b e => by cases e; simpa using hng.1)
 ·rcases List.mem_append.1 hq with hq | hq
  ·exact keep q (h.bg.nds q hq) (h.nn q hq)
  ·obtain rfl := List.mem_singleton.1 hq
   exact keep q hp hpn
 ·intro pb e
  cases e
  refine ⟨?_, hng⟩
  rcases hg with e | e
  ·exact (h.np g e).1
  ·exact Nat.le_trans h.k.size e
 ·rcases List.mem_append.1 hq with hq | hq
  ·exact hng2 q (h.bg.nds q hq) (h.nn q hq)
  ·obtain rfl := List.mem_singleton.1 hq
   exact hng2 q hp hpn
end
def latP (rows : List Nat) (of : List Int) (reached n m : Nat) : Bool := reached.testBit m && (decide (of.getD m 0 < 0) && ((rows.getD m 0).testBit n && !(rows.getD n 0).testBit m))
def latN (rows : List Nat) (of : List Int) (reached n : Nat) : Nat → Bool
 | 0 => false
 | k + 1 => latN rows of reached n k || latP rows of reached n k
theorem latN_up {rows : List Nat} {of : List Int} {reached n k : Nat} (h : latN rows of reached n k = true) : ∀ {m : Nat}, k ≤ m → latN rows of reached n m = true
 | 0, hm => by
  obtain rfl : k = 0 := by omega
  exact h
 | m + 1, hm => by
  by_cases e : k = m + 1
  ·rw [← e]; exact h
  ·rw [latN, latN_up h (m := m) (by omega)]; rfl
set_option linter.unusedSimpArgs false in
theorem later_any (w : World) (gb : Nat) (x : Gr) (rb ob : Nat) (pa : Option Nat) (pc : Nat) (rows : List Nat) (of : List Int) (ps : List Pt) (h : BG w gb x rb ob pa pc rows of ps) (n reached : Nat) (hl : rows.length = x.nodes.length) (ho : of.length = x.nodes.length) (hN : x.nodes.length ≤ 64) (hn : n < rows.length)
  (hr : reached < 2 ^ 64) (hlt : ∀ n, n < rows.length → rows.getD n 0 < 2 ^ 64) :
  Calls Tryz.prog 62 #[.pointer (some ⟨gb, 0, none⟩), .int .i64 n, .int .u64 (reached : Nat)] w fun e w' => e = .returned (.bool (latN rows of reached n rows.length)) ∧ w = w' := by
 obtain ⟨_, c4, c5, _⟩ := bg_cells h.box
 have hrn := bu_cell h.rw n hn
 have hbn := hlt n hn
 have HU := gI (fun i hi => bu_cell h.rw i hi)
 have HO := gI (fun i hi => bi_cell h.ofs i hi)
 rw [← hl] at c4 c5 ho hN
 obtain ⟨L, hL⟩ : ∃ L, L = rows.length := ⟨_, rfl⟩
 have HL := gI hL
 rw [← hL] at c4 c5 ho hN hn hlt HU ⊢
 have HLT := gI hlt
 have HOL := gI ho
 obtain ⟨rn, hrn2⟩ : ∃ rn, rn = rows.getD n 0 := ⟨_, rfl⟩
 rw [← hrn2] at hrn hbn
 have HRN := gI hrn2
 obtain ⟨R, hR⟩ : ∃ R, R = latN rows of reached n L := ⟨_, rfl⟩
 rw [← hR]
 have HR := gI hR
 have HB := gI hbn
 have HB2 := gI hr
 clear h hl ho hlt hL hrn2 hR hr hbn
 go_enter Tryz.func62, Tryz.ntmps62
 go_upto_region 2 with fail
 go_loopw [13] (fun i wr => ∃ k : Nat, k ≤ L ∧ i = .int .i64 k ∧ latN rows of reached n k = false ∧ w = wr) (fun i _ => L - (intOf i).toNat)
 case atStart => exact ⟨0, Nat.zero_le _, rfl, rfl, rfl⟩
 case round =>
  obtain ⟨k, hk, rfl, hf, rfl⟩ := hrel
  have HF := gI hf
  clear hf
  by_cases hkL : k < L
  ·have hki : (k : Int) < (L : Int) := by omega
   have u := HU.out k hkL
   have o := HO.out k (by rw [HOL.out]; exact hkL)
   have HS := gI (show latN rows of reached n (k + 1) = latP rows of reached n k by rw [latN, HF.out]; rfl)
   have HP := gI (show latP rows of reached n k = (reached.testBit k && (decide (of.getD k 0 < 0) && ((rows.getD k 0).testBit n && !(rows.getD n 0).testBit k))) from rfl)
   have b1 := bit_u64 reached k HB2.out
   have b2 := bit_u64 (rows.getD k 0) n (HLT.out k hkL)
   have b3 := bit_u64 rn k HB.out
   have t1 := testBit_div reached k
   have t2 := testBit_div (rows.getD k 0) n
   have t3 := testBit_div0 rn k
   rw [← HRN.out] at HP
   obtain ⟨rk, hrk⟩ : ∃ rk, rk = rows.getD k 0 := ⟨_, rfl⟩
   obtain ⟨ok, hok⟩ : ∃ ok, ok = of.getD k 0 := ⟨_, rfl⟩
   simp only [← hrk, ← hok] at u o b2 t2 HP
   obtain ⟨p1, hp1⟩ : ∃ p1, p1 = reached.testBit k := ⟨_, rfl⟩
   obtain ⟨p2, hp2⟩ : ∃ p2, p2 = rk.testBit n := ⟨_, rfl⟩
   obtain ⟨p3, hp3⟩ : ∃ p3, p3 = rn.testBit k := ⟨_, rfl⟩
   simp only [← hp1, ← hp2, ← hp3] at t1 t2 t3 HP
   clear hrk hok hp1 hp2 hp3
   have hw1 : IntKind.i64.wrap ((k : Int) + 1) = (k : Int) + 1 := IntWalk.i64_in _ (by omega)
   cases p1 with
   | false =>
    have HS2 := gI (show latN rows of reached n (k + 1) = false by rw [HS.out, HP.out]; simp)
    go_wp2
    go_roundw
    case rel => exact ⟨k + 1, by omega, by go_num, HS2.out, by trivial⟩
    case measure => simp [intOf]; omega
   | true =>
    by_cases hneg : ok < 0
    ·cases p2 with
     | false =>
      have HS2 := gI (show latN rows of reached n (k + 1) = false by rw [HS.out, HP.out]; simp)
      go_wp2
      go_roundw
      case rel => exact ⟨k + 1, by omega, by go_num, HS2.out, by trivial⟩
      case measure => simp [intOf]; omega
     | true =>
      cases p3 with
      | true =>
       have HS2 := gI (show latN rows of reached n (k + 1) = false by rw [HS.out, HP.out]; simp)
       go_wp2
       go_roundw
       case rel => exact ⟨k + 1, by omega, by go_num, HS2.out, by trivial⟩
       case measure => simp [intOf]; omega
      | false =>
       have HS2 := gI (show latN rows of reached n (k + 1) = true by rw [HS.out, HP.out]; simp [hneg])
       have HE := gI (show R = true by rw [HR.out]; exact latN_up HS2.out (by omega))
       go_wp2
       go_ret
       exact ⟨by rw [HE.out]; rfl, rfl⟩
    ·have HS2 := gI (show latN rows of reached n (k + 1) = false by rw [HS.out, HP.out]; simp [hneg])
     go_wp2
     go_roundw
     case rel => exact ⟨k + 1, by omega, by go_num, HS2.out, by trivial⟩
     case measure => simp [intOf]; omega
  ·obtain rfl : k = L := by omega
   have HE := gI (show R = false by rw [HR.out, HF.out])
   go_wp2
   go_ret
   exact ⟨by rw [HE.out]; rfl, rfl⟩
end Go.Proofs.YtkekenaamnhbhaaGreat
