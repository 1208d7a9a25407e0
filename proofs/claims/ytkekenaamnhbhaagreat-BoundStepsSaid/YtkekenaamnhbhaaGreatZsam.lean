/- Part 13 of the proof. No condition: every lemma says its own. -/
import Derived.Laws.EntriesVeiled
import Derived.BigQuiet
import Derived.Deep.DeepCutAuto
import Derived.Test.YtkekenaamnhbhaaGreatZsal
import Derived.Test.YtkekenaamnhbhaaGreatZsai
import Derived.Test.YtkekenaamnhbhaaGreatZsaj
import Derived.Test.YtkekenaamnhbhaaGreatZsac
namespace Go.Proofs.YtkekenaamnhbhaaGreat
open Go.RowKit Go.Sort Go.BigFrame Classical
open Go.RowKit Go.Sort Go.BigFrame
open Go.RowKit Go.BigFrame
set_option maxRecDepth 100000
set_option maxHeartbeats 16000000
def NextOK (W0 : World) (OKs : Tri → Prop) (nf : Nat) (ncap : Array Value) (succ : Tri → Int → Tri → Prop) : Prop :=
 ∀ (p9 p11 p12 : Nat) (J : List (Int × Tri) → List Nat → World → Prop), NameOK W0 OKs #[.pointer (some ⟨p9, 0, none⟩), .pointer (some ⟨p11, 0, none⟩), .pointer (some ⟨p12, 0, none⟩)] J → ∀ s l0 U W, OKs s → J l0 U W →
  Calls Tryz.prog nf (#[triv s, .func (.func 114) #[] #[.pointer (some ⟨p9, 0, none⟩), .pointer (some ⟨p11, 0, none⟩), .pointer (some ⟨p12, 0, none⟩)]] ++ ncap) W fun e W' => e = .returned (.tuple #[]) ∧
   ∃ l U', J (l0 ++ l) U' W' ∧ (∀ x ∈ U', x ∈ U ∨ W.heap.size ≤ x) ∧ Keeps U W W' ∧ ∀ c t, (c, t) ∈ l ↔ succ s c t
theorem MapAt.range {P : Program} {k e t b n : Nat} {w : World} {g : Value → Option Value} (h : MapAt w P k b n g) (K : Maps.Keyed P k) (ht : P.underlying t = some (.map k e)) :
  ∃ w' cnt, (Instr.range t (.map (some b))).run P w = .ok (.pointer (some ⟨w.heap.size, 0, none⟩)) w' ∧ RangeAt w' P k b w.heap.size n g (fun v => (g v).isSome) cnt ∧ Keeps [] w w' ∧ w'.heap.size = w.heap.size + 1 := by
 obtain ⟨D, h1, h2⟩ := h
 obtain ⟨w', hrun, hr, hg, hs⟩ := h1.range K ht
 refine ⟨w', _, hrun, ⟨D, _, hr, h2, fun key kl hk => ?_⟩, Keeps.of_grown hg, hs⟩
 have hk2 := h2 key kl hk
 cases hgk : g key with
 | none => rw [hgk] at hk2; show (g key).isSome = _; rw [hgk]; exact (Maps.has_false_of_atKey hk2).symm
 | some v => rw [hgk] at hk2; show (g key).isSome = _; rw [hgk]; exact (Maps.has_true_of_atKey hk2).symm
theorem wp_range {P : Program} {w : World} {o : Oper} {a : Act} {K : Act → World → Prop} {Q : Exit → Act → World → Prop} (m : Operand) (t : TypeId) (hop : o.op = Op.range t m) (k e : TypeId) (Kd : Maps.Keyed P k) (ht : P.underlying t = some (.map k e))
  (b n : Nat) (g : Value → Option Value) (hm : a.eval m = .map (some b)) (h : MapAt w P k b n g)
  (hK : ∀ w' cnt, RangeAt w' P k b w.heap.size n g (fun v => (g v).isSome) cnt → Keeps [] w w' → w'.heap.size = w.heap.size + 1 → K (a.put o.dst (.pointer (some ⟨w.heap.size, 0, none⟩))) w') : Oper.wp P o a w K Q := by
 obtain ⟨w', cnt, hrun, r1, r2, r3⟩ := h.range Kd ht
 unfold Oper.wp
 simp [execOp, hop, hm, hrun, Result.andThen]
 exact hK w' cnt r1 r2 r3
theorem isKey_int {v : Value} (h : IsKey Tryz.prog 3 v) : ∃ c, v = .int .i64 c ∧ M64 c := by
 obtain ⟨kl, h⟩ := h
 obtain ⟨c, rfl, _, hw⟩ := Maps.keyOf_int_inv Tryz.underlying3 h
 refine ⟨c, rfl, ?_⟩
 have e : IntKind.i64.min = -9223372036854775808 := rfl
 have e2 : IntKind.i64.max = 9223372036854775807 := rfl
 simp [Lit.wf, e, e2] at hw
 exact hw
def DOK (N : Nat) (s : Tri) : Prop := (0 ≤ s.1 ∧ s.1 < N) ∧ (0 ≤ s.2.1 ∧ s.2.1 < N) ∧ (s.2.2 = 0 ∨ s.2.2 = 1)
def dTo (s : Tri) (e f : E4) : Tri := (min e.tt f.tt, max e.tt f.tt, if e ≠ f ∨ 1 < e.ws then 1 else s.2.2)
def DSucc (es : List E4) (part : Nat) (s : Tri) (c : Int) (t : Tri) : Prop :=
 ∃ e ∈ es, ∃ f ∈ es, e.fr = s.1 ∧ f.fr = s.2.1 ∧ e.cl = c ∧ f.cl = c ∧ part.testBit e.tt.toNat = true ∧ part.testBit f.tt.toNat = true ∧ t = dTo s e f
theorem M64.small {x : Int} (h0 : 0 ≤ x) (h1 : x ≤ 1000000000000) : M64 x := ⟨by omega, by omega⟩
theorem WaysAt.edges {w : World} {x : Gr} {ob : Nat} (h : ∀ n, n < x.nodes.length → ∃ mb g k, w.cell? ⟨ob, n, none⟩ = some (.map (some mb)) ∧ MapAt w Tryz.prog 3 mb k g ∧ k ≤ 100000 ∧
   ∀ c, (sel x.edges n c = [] → g (.int .i64 c) = none) ∧ (sel x.edges n c ≠ [] → ∃ a cc, g (.int .i64 c) = some (.slice a (sel x.edges n c).length cc) ∧ EdIn w a (sel x.edges n c))) {n : Nat} (hn : n < x.nodes.length) :
  ∃ mb g k, w.cell? ⟨ob, n, none⟩ = some (.map (some mb)) ∧ MapAt w Tryz.prog 3 mb k g ∧ k ≤ 100000 ∧ ∀ c, ((g (.int .i64 c)).isSome = true ↔ sel x.edges n c ≠ []) ∧ ∃ a cc, (g (.int .i64 c)).getD (.slice none 0 0) = .slice a (sel x.edges n c).length cc ∧ EdIn w a (sel x.edges n c) := by
 obtain ⟨mb, g, k, h1, h2, h3, h4⟩ := h n hn
 refine ⟨mb, g, k, h1, h2, h3, fun c => ?_⟩
 by_cases hs : sel x.edges n c = []
 ·rw [(h4 c).1 hs]
  refine ⟨by simp [hs], none, 0, by simp [hs], fun h0 => ?_⟩
  rw [hs] at h0
  simp at h0
 ·obtain ⟨a, cc, h5, h6⟩ := (h4 c).2 hs
  rw [h5]
  exact ⟨by simp [hs], a, cc, rfl, h6⟩
theorem lits3 {t : Tri} (h : TOK t) : ∃ d, Tryz.prog.keyLits d 175 (triL t) = some [.int .i64 t.1, .int .i64 t.2.1, .int .i64 t.2.2] := by
 obtain ⟨x, y, z⟩ := t
 obtain ⟨h1, h2, h3⟩ := h
 exact ⟨2, by simp [triL, Program.keyLits, Tryz.underlying175, Tryz.underlying3, triCells, intCells, wf_i64 h1, wf_i64 h2, wf_i64 h3, List.range, List.range.loop]⟩
theorem eq3 {s t : Tri} (hs : TOK s) (ht : TOK t) (w : World) : (Op.equalIn 10000 175 (triv s) (triv t)).run Tryz.prog w = .ok (decide (s = t)) w := by
 obtain ⟨d1, h1⟩ := lits3 hs
 obtain ⟨d2, h2⟩ := lits3 ht
 have hk : Tryz.prog.keyTypeAt 2 175 = true := by kernel_rfl
 have hf : ∀ u : Tri, (triv u).formed Tryz.prog 175 = true := fun u => by simp [triv, Value.formed, Tryz.underlying175, triCells]
 obtain ⟨r, hr, hiff⟩ := run_equalIn_deep (P := Tryz.prog) 9998 2 175 hk w d1 d2 (triv s) (triv t) _ _ (hf s) (hf t) h1 h2
 have e : r = decide (s = t) := by
  obtain ⟨x, y, z⟩ := s
  obtain ⟨x2, y2, z2⟩ := t
  rw [Bool.eq_iff_iff, hiff]
  simp
 rw [← e]
 exact hr
theorem wantD_any (pn : Nat) (node : Int) (s : Tri) (w : World) (h : w.cell? ⟨pn, 0, none⟩ = some (.int .i64 node)) (hs : TOK s) (hn : M64 node) :
  Calls Tryz.prog 103 #[triv s, .pointer (some ⟨pn, 0, none⟩)] w fun e w' => e = .returned (.bool (decide (s = (node, node, 1)))) ∧ Keeps [] w w' := by
 obtain ⟨R, hR⟩ : ∃ R, R = decide (s = (node, node, (1 : Int))) := ⟨_, rfl⟩
 have hE : ∀ W, (Op.equalIn 10000 175 (triv s) (triv (node, node, 1))).run Tryz.prog W = .ok R W := fun W => by rw [hR]; exact eq3 hs (show TOK (node, node, 1) from ⟨hn, hn, by show (-9223372036854775808 : Int) ≤ 1 ∧ (1 : Int) ≤ 9223372036854775807; omega⟩) W
 rw [← hR]
 obtain ⟨x, y, z⟩ := s
 clear hR hs hn
 simp only [triv] at hE ⊢
 have h2 := (Keeps.a1 w (.cells #[.int .i64 x, .int .i64 y, .int .i64 z] 175)).cell h (by simp)
 go_enter Tryz.func103, Tryz.ntmps103
 go_wp2
 go_ret
 exact ⟨rfl, Keeps.a1 _ _⟩
def loOf (cls : List Cl) (c : Int) : Int := ((cls.getD c.toNat ⟨none, 0, []⟩).sp.getD 0 (0, 0)).1
theorem infoInt : (Tryz.prog.info? 3).map (fun i => (i.zero, i.size, i.bytes)) = some (some (.int .i64 0), 1, 8) := by kernel_rfl
theorem word_any (wb : Nat) (x : Gr) (rows : List Nat) (ao : Option Addr) (cap : Nat) (cs : List Int) (w : World) (hw : WaysAt w wb x rows) (ok : GrOK x) (hc : IntsIn w ao cs) (hin : ∀ c ∈ cs, 0 ≤ c ∧ c < x.cls.length) (hl : cs.length ≤ 1000000000) :
  Calls Tryz.prog 69 #[.pointer (some ⟨wb, 0, none⟩), .slice ao cs.length cap] w fun e w' => ∃ a c', e = .returned (sv a cs.length c') ∧ SliceAt w' 3 1 a cs.length c' ((cs.map (loOf x.cls)).map (Value.int .i64)) ∧ Keeps [] w w' ∧ ∀ g, a = some g → w.heap.size ≤ g := by
 obtain ⟨ii, hii, hiz, his, hib⟩ := infoParts infoInt
 obtain ⟨ob, rb, hb, _, _⟩ := hw.box
 obtain ⟨P, hP⟩ : ∃ P : Ending → World → Prop, P = fun e w' => ∃ a c', e = .returned (sv a cs.length c') ∧ SliceAt w' 3 1 a cs.length c' ((cs.map (loOf x.cls)).map (Value.int .i64)) ∧ Keeps [] w w' ∧ ∀ g, a = some g → w.heap.size ≤ g := ⟨_, rfl⟩
 rw [← hP]
 have HP := gI hP
 have c0 := (way_cells hb).1
 have HCI := gI hw.gr.cls
 have HSP := gI hw.gr.sp
 have HCL := gI ok.cls
 have HC := gI hc
 have HIN := gI hin
 have HII := gI hii
 have HIZ := gI hiz
 have HIS := gI his
 have HIB := gI hib
 have hlc := hw.gr.lc
 obtain ⟨ca, cc, cls, na, nc, nodes, fa, fc, first, ea, ec, edges⟩ := x
 simp only at *
 have HB0 := gI c0
 clear hw ok hb hc hin hii hiz his hib hP
 go_enter Tryz.func69, Tryz.ntmps69
 go_wp2
 go_loopw [10, 5] (fun i v wr => ∃ (k : Nat) (a : Option Nat) (c' : Nat), k ≤ cs.length ∧ i = .int .i64 k ∧ v = sv a k c' ∧ SliceAt wr 3 1 a k c' (((cs.take k).map (loOf cls)).map (Value.int .i64)) ∧ Keeps [] w wr ∧ ∀ g, a = some g → w.heap.size ≤ g) (fun i _ _ => cs.length - (intOf i).toNat)
 case atStart => exact ⟨0, none, 0, Nat.zero_le _, rfl, rfl, SliceAt.nil _ _ _, Keeps.refl _ _, by simp⟩
 case round =>
  obtain ⟨k, a, c', hk, rfl, rfl, hs, hkp, hg⟩ := hrel
  have HS := gI hs
  have HK := gI hkp
  have HG := gI hg
  by_cases hlt : k < cs.length
  ·obtain ⟨b, off, rfl, hx⟩ := (HC.out.keep hkp) (by omega)
   have x0 := hx k hlt
   have hgd : cs.getD k 0 = cs[k] := by simp [List.getD, hlt]
   rw [hgd] at x0
   obtain ⟨hc0, hc1⟩ := HIN.out cs[k] (List.getElem_mem hlt)
   have htk : cs.take (k + 1) = cs.take k ++ [cs[k]] := List.take_succ_eq_append_getElem hlt
   obtain ⟨c, hce⟩ : ∃ c, c = cs[k] := ⟨_, rfl⟩
   rw [← hce] at x0 hc0 hc1 htk
   obtain ⟨c, rfl⟩ := Int.eq_ofNat_of_zero_le hc0
   have hcl : c < cls.length := by omega
   obtain ⟨bc, oc, hca, hcc⟩ := (HCI.out.keep hkp) (by omega)
   have y0 := hcc c hcl
   obtain ⟨hne, _⟩ := HCL.out cls[c] (List.getElem_mem hcl)
   have hsp := (HSP.out cls[c] (List.getElem_mem hcl)).keep hkp
   have hlo : loOf cls c = (cls[c].sp.getD 0 (0, 0)).1 := by simp [loOf, List.getD, hcl]
   obtain ⟨q, hq⟩ : ∃ q, q = cls[c] := ⟨_, rfl⟩
   rw [← hq] at y0 hne hsp hlo
   obtain ⟨qa, qc, qs⟩ := q
   simp only at y0 hne hsp hlo
   have hqs : 0 < qs.length := List.length_pos_iff.2 hne
   obtain ⟨bs, os, hqa, hsc⟩ := hsp hqs
   obtain ⟨z0, _⟩ := hsc 0 hqs
   have hlo2 : qs[0].1 = loOf cls c := by rw [hlo]; simp [List.getD, hqs]
   rw [hlo2] at z0
   have v0 := hkp.cell HB0.out (by simp)
   subst hqa
   subst hca
   obtain ⟨lo, hloe⟩ : ∃ lo, lo = loOf cls c := ⟨_, rfl⟩
   rw [← hloe] at z0
   have HTK := gI (show ((cs.take (k + 1)).map (loOf cls)).map (Value.int .i64) = ((cs.take k).map (loOf cls)).map (Value.int .i64) ++ [.int .i64 lo] by rw [htk, hloe]; simp)
   have hq1 : (1 : Int) ≤ (qs.length : Int) := by omega
   clear hx hgd htk hce hcc hq hne hsp hlo hlo2 hsc hloe hs hkp hg
   simp only [Nat.zero_mul, Nat.add_zero] at z0
   go_wp2_with (at_builtin; refine wpList_append_sl rfl (.tmp 14) (.tmp 26) 22 rfl 3 ii _ 1 8 Tryz.underlying22 HII.out HIZ.out HIS.out HIB.out rfl (by decide) a k c' _ rfl (HS.out.alloc _) ⟨wr.heap.size, 0, none⟩ 1 1 [.int .i64 lo] rfl rfl ?hnews (int_one _) (by decide) (by omega) (by omega) ?hk)
   case hnews => exact news_row' _ _ _ _ rfl
   case hk =>
    intro g2 c2 w2 hs2 hk2 hg2
    have HS2 := gI hs2
    have HK2 := gI (show Keeps [] w w2 from (HK.out.alloc _).after hk2 (by intro y hy; simp at hy; exact .inr (HG.out y hy)))
    have HG2 := gI (show w.heap.size ≤ g2 by
     rcases hg2 with h | h
     ·exact HG.out g2 h
     ·have := HK.out.size
      have h' : wr.heap.size + 1 ≤ g2 := by simpa using h
      omega)
    clear hs2 hk2 hg2
    go_wp2
    go_roundw
    case rel => exact ⟨k + 1, some g2, c2, hlt, by go_num, rfl, by rw [HTK.out]; simpa using HS2.out, HK2.out, by intro y hy; simp at hy; subst hy; exact HG2.out⟩
    case measure => simp [intOf]; omega
  ·obtain rfl : k = cs.length := by omega
   clear hs hkp hg
   go_wp2
   rw [HP.out]
   refine ⟨a, c', rfl, ?_, HK.out, HG.out⟩
   have h := HS.out
   rw [List.take_length] at h
   exact h
def addB (rows : List Nat) (n m : Nat) : Bool := (rows.getD n 0).testBit m && (rows.getD m 0).testBit n
def addK (rows : List Nat) (n : Nat) (q : Int) (of : List Int) : Nat → List Int × List Int
 | 0 => (of, [])
 | k + 1 => if addB rows n k then ((addK rows n q of k).1.set k q, (addK rows n q of k).2 ++ [(k : Int)]) else addK rows n q of k
theorem addK_length (rows : List Nat) (n : Nat) (q : Int) (of : List Int) : ∀ k, (addK rows n q of k).1.length = of.length ∧ (addK rows n q of k).2.length ≤ k
 | 0 => ⟨rfl, Nat.le_refl _⟩
 | k + 1 => by
  have ih := addK_length rows n q of k
  simp only [addK]
  split
  ·simp only [List.length_set, List.length_append, List.length_singleton]
   omega
  ·omega
theorem infoPt : (Tryz.prog.info? 96).map (fun i => (i.zero, i.size, i.bytes)) = some (some (.agg #[.slice none 0 0, .bool false, .bool false, .bool false]), 4, 32) := by kernel_rfl
def AddP (W0 : World) (gb : Nat) (x : Gr) (rb ob : Nat) (rows : List Nat) (of : List Int) (ps : List Pt) (n N : Nat) (e : Ending) (w' : World) : Prop :=
 (∃ v, e = .returned v) ∧ ∃ g c na nc, BN W0 w' gb x rb ob (some g) c rows (addK rows n ps.length of N).1 (ps ++ [⟨na, nc, (addK rows n ps.length of N).2, false, false, false⟩])
set_option linter.unusedSimpArgs false in
theorem add_any' (W0 w : World) (gb : Nat) (x : Gr) (rb ob : Nat) (pa : Option Nat) (pc : Nat) (rows : List Nat) (of : List Int) (ps : List Pt) (h : BN W0 w gb x rb ob pa pc rows of ps) (ho : of.length = x.nodes.length) (hr : rows.length = x.nodes.length) (hN : x.nodes.length ≤ 64) (hM : ps.length ≤ 1000000)
  (hR : ∀ i, rows.getD i 0 < 2 ^ 64) (n : Nat) (hn : n < x.nodes.length) :
  Calls Tryz.prog 63 #[.pointer (some ⟨gb, 0, none⟩), .int .i64 n] w (AddP W0 gb x rb ob rows of ps n x.nodes.length) := by
 obtain ⟨ii, hii, hiz, his, hib⟩ := infoParts infoInt
 obtain ⟨ip, hip, hpz, hps, hpb⟩ := infoParts infoPt
 have HII := gI (And.intro hii (And.intro hiz (And.intro his hib)))
 have HIP := gI (And.intro hip (And.intro hpz (And.intro hps hpb)))
 obtain ⟨N, hNN⟩ : ∃ N, N = x.nodes.length := ⟨_, rfl⟩
 obtain ⟨M, hKK⟩ : ∃ M, M = ps.length := ⟨_, rfl⟩
 obtain ⟨Q, hQ⟩ : ∃ Q, Q = AddP W0 gb x rb ob rows of ps n x.nodes.length := ⟨_, rfl⟩
 rw [← hQ]
 rw [← hNN] at ho hr hN hn
 rw [← hKK] at hM
 have HQ := gI hQ
 have HLT := gI h.lt
 have HWS := gI h.k.size
 have HNEW := gI (show ∀ b, w.heap.size ≤ b → W0.heap.size ≤ b ∧ b ≠ gb ∧ b ≠ rb ∧ b ≠ ob ∧ pa ≠ some b ∧ ∀ p ∈ ps, p.na ≠ some b from fun b hb => by
  obtain ⟨a1, a2, a3, a4, a5⟩ := h.lt
  have a6 := h.k.size
  exact ⟨by omega, by omega, by omega, by omega, fun e => by have := a4 b e; omega, fun p hp e => by have := a5 p hp b e; omega⟩)
 have HNN := gI hNN
 have HKK := gI hKK
 have HR := gI hR
 have HRL := gI hr
 have HOL := gI ho
 have HNE := gI h.ne
 have HNP := gI h.np
 have HBX := gI (show ∀ (W : World) (o : List Int), BN W0 W gb x rb ob pa pc rows o ps → W.cell? ⟨gb, 4, none⟩ = some (.slice (some ⟨rb, 0, none⟩) N N) ∧ W.cell? ⟨gb, 5, none⟩ = some (.slice (some ⟨ob, 0, none⟩) N N) ∧ W.cell? ⟨gb, 6, none⟩ = some (.slice (pa.map fun g => ⟨g, 0, none⟩) M pc) ∧ W.frozen? ⟨gb, 6, none⟩ = false from fun W o hb => by
  have h := bg_cells hb.bg.box
  rw [hNN, hKK]
  exact ⟨h.2.1, h.2.2.1, h.2.2.2, by simp [World.frozen?, hb.bg.box]⟩)
 obtain ⟨P, hP⟩ : ∃ P, P = w.heap.size := ⟨_, rfl⟩
 obtain ⟨Y, hY⟩ : ∃ Y, Y = w.alloc (.cells #[.slice none 0 0, .bool false, .bool false, .bool false] 96) := ⟨_, rfl⟩
 have hkY : Keeps [] w Y := by rw [hY]; exact Keeps.a1 _ _
 have HYB := gI (h.keep hkY)
 have HYH := gI (show Y.heap[P]? = some (.cells #[.slice none 0 0, .bool false, .bool false, .bool false] 96 (0, 0)) by rw [hY, hP]; exact heap_alloc_new w _)
 have HP := gI hP
 have HY := gI hY
 obtain ⟨_, _, _, _⟩ := HBX.out Y of HYB.out
 clear hii hiz his hib hip hpz hps hpb h hQ hNN hKK hR hr ho hkY hP hY
 go_enter Tryz.func63, Tryz.ntmps63
 go_upto_region 1 with fail
 rw [← HY.out, ← HP.out]
 go_upto_region 2 with fail
 go_loopw [11] (fun i wr => ∃ (k : Nat) (na : Option Nat) (nc : Nat), k ≤ N ∧ i = .int .i64 k ∧ BN W0 wr gb x rb ob pa pc rows (addK rows n M of k).1 ps ∧ wr.heap[P]? = some (.cells #[sv na (addK rows n M of k).2.length nc, .bool false, .bool false, .bool false] 96 (0, 0)) ∧
  SliceAt wr 3 1 na (addK rows n M of k).2.length nc (bi (addK rows n M of k).2) ∧ ∀ nb, na = some nb → P < nb) (fun i _ => N - (intOf i).toNat)
 case atStart => exact ⟨0, none, 0, Nat.zero_le _, rfl, HYB.out, HYH.out, SliceAt.nil _ _ _, fun nb e => by cases e⟩
 case round =>
  obtain ⟨k, na, nc, hk, rfl, hb, hp, hs, hpn⟩ := hrel
  have HB := gI hb
  have HPH := gI hp
  have HS := gI hs
  have HPN := gI hpn
  clear hb hp hs hpn
  by_cases hkN : k < N
  ·have hki : (k : Int) < (N : Int) := by omega
   obtain ⟨o4, o5, o6, _⟩ := HBX.out wr _ HB.out
   have u1 := bu_cell HB.out.bg.rw n (by rw [HRL.out]; exact hn)
   have u2 := bu_cell HB.out.bg.rw k (by rw [HRL.out]; exact hkN)
   have b1 := bit_u64 (rows.getD n 0) k (HR.out n)
   have b2 := bit_u64 (rows.getD k 0) n (HR.out k)
   have t1 := testBit_div (rows.getD n 0) k
   have t2 := testBit_div (rows.getD k 0) n
   have HA := gI (show addK rows n M of (k + 1) = if addB rows n k then ((addK rows n M of k).1.set k M, (addK rows n M of k).2 ++ [(k : Int)]) else addK rows n M of k from rfl)
   have HAB := gI (show addB rows n k = ((rows.getD n 0).testBit k && (rows.getD k 0).testBit n) from rfl)
   have hll := (addK_length rows n M of k).2
   obtain ⟨rn, hrn⟩ : ∃ v, v = rows.getD n 0 := ⟨_, rfl⟩
   obtain ⟨rk, hrk⟩ : ∃ v, v = rows.getD k 0 := ⟨_, rfl⟩
   obtain ⟨ad, had⟩ : ∃ v, v = addK rows n M of k := ⟨_, rfl⟩
   simp only [← hrn, ← hrk] at u1 u2 b1 b2 t1 t2 HAB
   obtain ⟨p1, hp1⟩ : ∃ p1, p1 = rn.testBit k := ⟨_, rfl⟩
   obtain ⟨p2, hp2⟩ : ∃ p2, p2 = rk.testBit n := ⟨_, rfl⟩
   simp only [← hp1, ← hp2] at t1 t2 HAB
   rw [← had] at HA HB HPH HS hll
   have HAD := gI had
   clear hrn hrk had hp1 hp2
   have hw1 : IntKind.i64.wrap ((k : Int) + 1) = (k : Int) + 1 := IntWalk.i64_in _ (by omega)
   cases p1 with
   | false =>
    have HS2 := gI (show addK rows n M of (k + 1) = ad by rw [HA.out, HAB.out]; rfl)
    go_wp2
    go_roundw
    case rel => exact ⟨k + 1, na, nc, by omega, by go_num, by rw [HS2.out]; exact HB.out, by rw [HS2.out]; exact HPH.out, by rw [HS2.out]; exact HS.out, HPN.out⟩
    case measure => simp [intOf]; omega
   | true =>
    cases p2 with
    | false =>
     have HS2 := gI (show addK rows n M of (k + 1) = ad by rw [HA.out, HAB.out]; rfl)
     go_wp2
     go_roundw
     case rel => exact ⟨k + 1, na, nc, by omega, by go_num, by rw [HS2.out]; exact HB.out, by rw [HS2.out]; exact HPH.out, by rw [HS2.out]; exact HS.out, HPN.out⟩
     case measure => simp [intOf]; omega
    | true =>
     have HS2 := gI (show addK rows n M of (k + 1) = (ad.1.set k M, ad.2 ++ [(k : Int)]) by rw [HA.out, HAB.out]; rfl)
     have of5 : wr.frozen? ⟨ob, k, none⟩ = false := HB.out.bg.ofs.fz k
     have oc5 : ∃ v, wr.cell? ⟨ob, k, none⟩ = some v := ⟨_, bi_cell HB.out.bg.ofs k (by have := (addK_length rows n M of k).1; rw [HAD.out, this, HOL.out]; exact hkN)⟩
     obtain ⟨v5, oc5⟩ := oc5
     go_upto_region 5 with fail
     go_region
     obtain ⟨X, hX⟩ : ∃ X, X = (wr.setCell ⟨ob, k, none⟩ (.int .i64 M)).drew := ⟨_, rfl⟩
     rw [← hX]
     have kX : Keeps [ob] wr X := by rw [hX]; exact ((Keeps.refl [ob] wr).setCell (by simp) _).drew
     have HBX2 := gI (show BN W0 X gb x rb ob pa pc rows (ad.1.set k M) ps by rw [hX]; exact (HB.out.setOf k M).keep (Keeps.refl [] _).drew)
     have hPo := HLT.out.2.2.1
     rw [← HP.out] at hPo
     have HPX := gI (kX.heap HPH.out (by simp; omega))
     have HSX := gI (HS.out.keep kX (fun nb e => by have := HPN.out nb e; simp; omega))
     have x0 : X.cell? ⟨P, 0, none⟩ = some (.slice (na.map fun g => ⟨g, 0, none⟩) ad.2.length nc) := by simp [World.cell?, HPX.out, sv]
     have hal : ad.2.length ≤ 64 := by omega
     obtain ⟨l, hl⟩ : ∃ l, l = ad.2.length := ⟨_, rfl⟩
     rw [← hl] at x0 hal
     have HL := gI hl
     have HSY := gI (show SliceAt X 3 1 na l nc (bi ad.2) by rw [hl]; exact HSX.out)
     clear hX kX hPo of5 oc5 o4 o5 o6 u1 u2 b1 b2 t1 t2 hl hll
     go_wp2_with (at_builtin; refine wpList_append_sl rfl (.tmp 50) (.tmp 52) 22 rfl 3 ii _ 1 8 Tryz.underlying22 HII.out.1 HII.out.2.1 HII.out.2.2.1 HII.out.2.2.2 rfl (by decide) na l nc (bi ad.2) rfl (HSY.out.alloc _) ⟨X.heap.size, 0, none⟩ 1 1 [.int .i64 k] rfl rfl (news_row' _ _ _ _ rfl) (int_one _) (by decide) (by omega) (by omega) ?hk)
     case hk =>
      intro g c1 w7 hs7 hk7 hg7
      have kz : Keeps [] X (X.alloc (.cells #[.int .i64 k] 3)) := Keeps.a1 _ _
      have hPx := lt_of_block HPX.out
      have nP : P ∉ na.toList := fun hm => by have := HPN.out P (by simpa using hm); omega
      have hP7 := hk7.heap (kz.heap HPX.out (by simp)) nP
      have f0 : w7.frozen? ⟨P, 0, none⟩ = false := by simp [World.frozen?, hP7]
      have x7 : ∃ v, w7.cell? ⟨P, 0, none⟩ = some v := ⟨sv na ad.2.length nc, by simp [World.cell?, hP7]⟩
      obtain ⟨v7, x7⟩ := x7
      have HB7 := gI ((HBX2.out.keep kz).keepS hk7 (fun b hb => HNEW.out b (by rw [← HP.out]; exact Nat.le_of_lt (HPN.out b (by simpa using hb)))))
      have HG := gI (show P < g from by
       rcases hg7 with e | e
       ·exact HPN.out g e
       ·have := kz.size; omega)
      obtain ⟨Z, hZ⟩ : ∃ Z, Z = w7.setCell ⟨P, 0, none⟩ (.slice (some ⟨g, 0, none⟩) (l + 1) c1) := ⟨_, rfl⟩
      have kZ : Keeps [P] w7 Z := by rw [hZ]; exact (Keeps.refl [P] w7).setCell (by simp) _
      have HBZ := gI (HB7.out.keepS kZ (fun b hb => HNEW.out b (by simp at hb; subst hb; exact Nat.le_of_eq HP.out.symm)))
      have HPZ := gI (show Z.heap[P]? = some (.cells #[sv (some g) (ad.2 ++ [(k : Int)]).length c1, .bool false, .bool false, .bool false] 96 (0, 0)) by
       have h := heap_setCell_same w7 P 0 _ _ (.slice (some ⟨g, 0, none⟩) (l + 1) c1) hP7
       rw [hZ, h]
       simp [sv, HL.out])
      have HSZ := gI (show SliceAt Z 3 1 (some g) (ad.2 ++ [(k : Int)]).length c1 (bi (ad.2 ++ [(k : Int)])) by
       have h := hs7.keep kZ (fun nb e => by cases e; have := HG.out; simp; omega)
       simpa [bi, HL.out] using h)
      have HZ := gI hZ
      clear hZ kZ kz hs7 hk7 hg7 hP7 nP hPx x0
      go_wp2
      rw [← HZ.out]
      go_roundw
      case rel => exact ⟨k + 1, some g, c1, by omega, by go_num, by rw [HS2.out]; exact HBZ.out, by rw [HS2.out]; exact HPZ.out, by rw [HS2.out]; exact HSZ.out, fun nb e => by cases e; exact HG.out⟩
      case measure => simp [intOf]; omega
  ·obtain rfl : k = N := by omega
   obtain ⟨o4, o5, o6, o6f⟩ := HBX.out wr _ HB.out
   have hll := (addK_length rows n M of k).2
   obtain ⟨ad, had⟩ : ∃ v, v = addK rows n M of k := ⟨_, rfl⟩
   rw [← had] at HB HPH HS hll
   have HAD := gI had
   obtain ⟨l, hl⟩ : ∃ l, l = ad.2.length := ⟨_, rfl⟩
   have HSY := gI (show SliceAt wr 3 1 na l nc (bi ad.2) by rw [hl]; exact HS.out)
   have HPY := gI (show wr.heap[P]? = some (.cells #[sv na l nc, .bool false, .bool false, .bool false] 96 (0, 0)) by rw [hl]; exact HPH.out)
   have x0 : wr.drew.cell? ⟨P, 0, none⟩ = some (sv na l nc) := (show wr.cell? ⟨P, 0, none⟩ = some (sv na l nc) by simp [World.cell?, HPY.out])
   have x1 : wr.drew.cell? ⟨P, 1, none⟩ = some (.bool false) := (show wr.cell? ⟨P, 1, none⟩ = some (.bool false) by simp [World.cell?, HPY.out])
   have x2 : wr.drew.cell? ⟨P, 2, none⟩ = some (.bool false) := (show wr.cell? ⟨P, 2, none⟩ = some (.bool false) by simp [World.cell?, HPY.out])
   have x3 : wr.drew.cell? ⟨P, 3, none⟩ = some (.bool false) := (show wr.cell? ⟨P, 3, none⟩ = some (.bool false) by simp [World.cell?, HPY.out])
   have q6 : wr.drew.cell? ⟨gb, 6, none⟩ = some (.slice (pa.map fun g => ⟨g, 0, none⟩) M pc) := o6
   obtain ⟨Z, hZ⟩ : ∃ Z, Z = (wr.alloc (.cells #[sv na l nc, .bool false, .bool false, .bool false] 96)).drew := ⟨_, rfl⟩
   have kz : Keeps [] wr Z := by rw [hZ]; exact ((Keeps.refl [] wr).alloc _).drew
   have z0 := kz.cell x0 (by simp)
   have z1 := kz.cell x1 (by simp)
   have z2 := kz.cell x2 (by simp)
   have z3 := kz.cell x3 (by simp)
   have z6 := kz.cell q6 (by simp)
   have HBZ := gI (HB.out.keep kz)
   have HPN2 := gI (show ∀ nb, na = some nb → nb ≠ gb ∧ nb ≠ rb ∧ nb ≠ ob ∧ pa ≠ some nb from fun nb e => by
    have h := HNEW.out nb (by rw [← HP.out]; exact Nat.le_of_lt (HPN.out nb e))
    exact ⟨h.2.1, h.2.2.1, h.2.2.2.1, h.2.2.2.2.1⟩)
   have HNW := gI (show ∀ (j : Nat) (u : Value), ([sv na l nc, .bool false, .bool false, .bool false] : List Value)[j]? = some u → Z.cell? ((⟨wr.heap.size, 0, none⟩ : Addr).add j) = some u by rw [hZ]; exact news_row wr _ _)
   have HONE := gI (show ∀ u ∈ ([sv na l nc, .bool false, .bool false, .bool false] : List Value), u.oneCell' = true from fun u hu => by
    simp at hu
    rcases hu with rfl | rfl <;> rfl)
   have HPR := gI (show SliceAt Z 96 4 pa M pc (ptRow ps) by rw [HKK.out]; exact HBZ.out.bg.prt)
   have HSZ := gI (HSY.out.keep kz (by simp))
   have HZ := gI hZ
   have HL := gI hl
   clear hZ kz o4 o5 o6 o6f hl hll had
   go_wp2
   refine wp_region_held_drew (S := fun W => W.cell? ⟨P, 0, none⟩ = some (sv na l nc) ∧ W.cell? ⟨P, 1, none⟩ = some (.bool false) ∧ W.cell? ⟨P, 2, none⟩ = some (.bool false) ∧ W.cell? ⟨P, 3, none⟩ = some (.bool false)) (by kernel_rfl) ⟨x0, x1, x2, x3⟩ (fun hHeld => ?_)
   refine take_on (i := 0) (v := ?_) rfl (by kernel_rfl) (by kernel_rfl) (by kernel_rfl) (fun _ _ _ h => h) (by rfl) (by assumption) ?_ ?_
   rotate_left
   ·((intro w hSw; (try dsimp only at hSw); go_simp <;> with_reducible rfl); done)
   try simp only [Act.put, List.setIfInBounds_toArray, List.set_cons_zero, List.set_cons_succ]
   refine take_on (i := 1) (v := ?_) rfl (by kernel_rfl) (by kernel_rfl) (by kernel_rfl) (fun _ _ _ h => h) (by rfl) (by assumption) ?_ ?_
   rotate_left
   ·((intro w hSw; (try dsimp only at hSw); go_simp <;> with_reducible rfl); done)
   try simp only [Act.put, List.setIfInBounds_toArray, List.set_cons_zero, List.set_cons_succ]
   refine take_on (i := 2) (v := ?_) rfl (by kernel_rfl) (by kernel_rfl) (by kernel_rfl) (fun _ _ _ h => h) (by rfl) (by assumption) ?_ ?_
   rotate_left
   ·((intro w hSw; (try dsimp only at hSw); go_simp <;> with_reducible rfl); done)
   try simp only [Act.put, List.setIfInBounds_toArray, List.set_cons_zero, List.set_cons_succ]
   refine take_on (i := 3) (v := ?_) rfl (by kernel_rfl) (by kernel_rfl) (by kernel_rfl) (fun _ _ _ h => h) (by rfl) (by assumption) ?_ ?_
   rotate_left
   ·((intro w hSw; (try dsimp only at hSw); go_simp <;> with_reducible rfl); done)
   try simp only [Act.put, List.setIfInBounds_toArray, List.set_cons_zero, List.set_cons_succ]
   refine take_on (i := 5) (v := ?_) rfl (by kernel_rfl) (by kernel_rfl) (by kernel_rfl) (fun _ _ _ h => h) (by rfl) (by assumption) ?_ ?_
   rotate_left
   ·((intro w hSw; (try dsimp only at hSw); go_simp <;> with_reducible rfl); done)
   try simp only [Act.put, List.setIfInBounds_toArray, List.set_cons_zero, List.set_cons_succ]
   refine branch_two (i := 4) (j := 6) rfl rfl (by kernel_rfl) (by rfl) (by rfl) (fun K hK => ?_) (fun K hK => ?_)
   ·go_simp
    refine hK.out _ _ (⟨x0, x1, x2, x3⟩) (fun hHeld => ?_)
    clear hK K
    try simp only [Act.put, List.setIfInBounds_toArray, List.set_cons_zero, List.set_cons_succ]
    refine branch_one (i := 6) rfl (by kernel_rfl) (by rfl) (fun K hK => ?_)
    go_simp
    rw [← HZ.out]
    refine hK.out _ _ (⟨z0, z1, z2, z3⟩) (fun hHeld => ?_)
    clear hK K
    try simp only [Act.put, List.setIfInBounds_toArray, List.set_cons_zero, List.set_cons_succ]
    refine branch_one (i := 7) rfl (by kernel_rfl) (by rfl) (fun K hK => ?_)
    refine wp_append_sl (.tmp 60) (.tmp 62) 94 rfl 96 ip _ 4 32 Tryz.underlying94 HIP.out.1 HIP.out.2.1 HIP.out.2.2.1 HIP.out.2.2.2 rfl (by decide) pa M pc (ptRow ps) rfl HPR.out ⟨wr.heap.size, 0, none⟩ 1 1 [sv na l nc, .bool false, .bool false, .bool false] rfl rfl HNW.out HONE.out (by decide) (by omega) (by omega) ?_
    intro g c1 w7 hs7 hk7 hg7
    have nP : P ∉ pa.toList := fun hm => by have h1 := HLT.out.2.2.2.1 P (by simpa using hm); have h2 := HP.out; omega
    have nG : gb ∉ pa.toList := fun hm => (HNP.out gb (by simpa using hm)).2.1 rfl
    have y0 := hk7.cell z0 nP
    have y1 := hk7.cell z1 nP
    have y2 := hk7.cell z2 nP
    have y3 := hk7.cell z3 nP
    have hG7 := hk7.heap HBZ.out.bg.box nG
    have f6 : w7.frozen? ⟨gb, 6, none⟩ = false := by simp [World.frozen?, hG7]
    have g6 := hk7.cell z6 nG
    have HBV := gI (BN.push (p := ⟨na, nc, ad.2, false, false, false⟩) HBZ.out hk7 (by rw [← HKK.out]; simpa [Pt.row, HL.out] using hs7) hg7 (by simpa [HL.out] using HSZ.out) HPN2.out rfl)
    rw [← HKK.out] at HBV
    have kV : Keeps [gb] w7 (w7.setCell ⟨gb, 6, none⟩ (.slice (some ⟨g, 0, none⟩) (M + 1) c1)) := (Keeps.refl [gb] w7).setCell (by simp) _
    obtain ⟨V, hV⟩ : ∃ V, V = w7.setCell ⟨gb, 6, none⟩ (.slice (some ⟨g, 0, none⟩) (M + 1) c1) := ⟨_, rfl⟩
    rw [← hV] at kV HBV
    have nPg : P ≠ gb := by have h1 := HLT.out.1; have h2 := HP.out; omega
    have v0 := kV.cell y0 (by simpa using nPg)
    have v1 := kV.cell y1 (by simpa using nPg)
    have v2 := kV.cell y2 (by simpa using nPg)
    have v3 := kV.cell y3 (by simpa using nPg)
    have HV := gI hV
    clear hV kV hG7 hs7 hk7 hg7
    refine hK.out _ _ (⟨y0, y1, y2, y3⟩) (fun hHeld => ?_)
    clear hK K
    try simp only [Act.put, List.setIfInBounds_toArray, List.set_cons_zero, List.set_cons_succ]
    refine take_on (i := 8) (v := ?_) rfl (by kernel_rfl) (by kernel_rfl) (by kernel_rfl) (fun _ _ _ h => h) (by rfl) (by assumption) ?_ ?_
    rotate_left
    ·((intro w hSw; (try dsimp only at hSw); go_simp <;> with_reducible rfl); done)
    try simp only [Act.put, List.setIfInBounds_toArray, List.set_cons_zero, List.set_cons_succ]
    refine take_on (i := 9) (v := ?_) rfl (by kernel_rfl) (by kernel_rfl) (by kernel_rfl) (fun _ _ _ h => h) (by rfl) (by assumption) ?_ ?_
    rotate_left
    ·((intro w hSw; (try dsimp only at hSw); go_simp <;> with_reducible rfl); done)
    try simp only [Act.put, List.setIfInBounds_toArray, List.set_cons_zero, List.set_cons_succ]
    refine branch_one (i := 10) rfl (by kernel_rfl) (by rfl) (fun K hK => ?_)
    go_simp
    rw [← HV.out]
    refine hK.out _ _ (⟨v0, v1, v2, v3⟩) (fun hHeld => ?_)
    clear hK K
    try simp only [Act.put, List.setIfInBounds_toArray, List.set_cons_zero, List.set_cons_succ]
    refine wpAnyH_done (by kernel_rfl) ?_ _
    go_wp2
    go_end0
    rw [HQ.out]
    refine ⟨⟨_, rfl⟩, g, c1, na, nc, ?_⟩
    rw [← HKK.out, ← HNN.out, ← HAD.out]
    exact HBV.out
   ·go_simp
    rw [← HZ.out]
    refine hK.out _ _ (⟨z0, z1, z2, z3⟩) (fun hHeld => ?_)
    clear hK K
    try simp only [Act.put, List.setIfInBounds_toArray, List.set_cons_zero, List.set_cons_succ]
    refine branch_one (i := 4) rfl (by kernel_rfl) (by rfl) (fun K hK => ?_)
    go_simp
    refine hK.out _ _ (⟨z0, z1, z2, z3⟩) (fun hHeld => ?_)
    clear hK K
    try simp only [Act.put, List.setIfInBounds_toArray, List.set_cons_zero, List.set_cons_succ]
    refine branch_one (i := 7) rfl (by kernel_rfl) (by rfl) (fun K hK => ?_)
    refine wp_append_sl (.tmp 60) (.tmp 62) 94 rfl 96 ip _ 4 32 Tryz.underlying94 HIP.out.1 HIP.out.2.1 HIP.out.2.2.1 HIP.out.2.2.2 rfl (by decide) pa M pc (ptRow ps) rfl HPR.out ⟨wr.heap.size, 0, none⟩ 1 1 [sv na l nc, .bool false, .bool false, .bool false] rfl rfl HNW.out HONE.out (by decide) (by omega) (by omega) ?_
    intro g c1 w7 hs7 hk7 hg7
    have nP : P ∉ pa.toList := fun hm => by have h1 := HLT.out.2.2.2.1 P (by simpa using hm); have h2 := HP.out; omega
    have nG : gb ∉ pa.toList := fun hm => (HNP.out gb (by simpa using hm)).2.1 rfl
    have y0 := hk7.cell z0 nP
    have y1 := hk7.cell z1 nP
    have y2 := hk7.cell z2 nP
    have y3 := hk7.cell z3 nP
    have hG7 := hk7.heap HBZ.out.bg.box nG
    have f6 : w7.frozen? ⟨gb, 6, none⟩ = false := by simp [World.frozen?, hG7]
    have g6 := hk7.cell z6 nG
    have HBV := gI (BN.push (p := ⟨na, nc, ad.2, false, false, false⟩) HBZ.out hk7 (by rw [← HKK.out]; simpa [Pt.row, HL.out] using hs7) hg7 (by simpa [HL.out] using HSZ.out) HPN2.out rfl)
    rw [← HKK.out] at HBV
    have kV : Keeps [gb] w7 (w7.setCell ⟨gb, 6, none⟩ (.slice (some ⟨g, 0, none⟩) (M + 1) c1)) := (Keeps.refl [gb] w7).setCell (by simp) _
    obtain ⟨V, hV⟩ : ∃ V, V = w7.setCell ⟨gb, 6, none⟩ (.slice (some ⟨g, 0, none⟩) (M + 1) c1) := ⟨_, rfl⟩
    rw [← hV] at kV HBV
    have nPg : P ≠ gb := by have h1 := HLT.out.1; have h2 := HP.out; omega
    have v0 := kV.cell y0 (by simpa using nPg)
    have v1 := kV.cell y1 (by simpa using nPg)
    have v2 := kV.cell y2 (by simpa using nPg)
    have v3 := kV.cell y3 (by simpa using nPg)
    have HV := gI hV
    clear hV kV hG7 hs7 hk7 hg7
    refine hK.out _ _ (⟨y0, y1, y2, y3⟩) (fun hHeld => ?_)
    clear hK K
    try simp only [Act.put, List.setIfInBounds_toArray, List.set_cons_zero, List.set_cons_succ]
    refine take_on (i := 8) (v := ?_) rfl (by kernel_rfl) (by kernel_rfl) (by kernel_rfl) (fun _ _ _ h => h) (by rfl) (by assumption) ?_ ?_
    rotate_left
    ·((intro w hSw; (try dsimp only at hSw); go_simp <;> with_reducible rfl); done)
    try simp only [Act.put, List.setIfInBounds_toArray, List.set_cons_zero, List.set_cons_succ]
    refine take_on (i := 9) (v := ?_) rfl (by kernel_rfl) (by kernel_rfl) (by kernel_rfl) (fun _ _ _ h => h) (by rfl) (by assumption) ?_ ?_
    rotate_left
    ·((intro w hSw; (try dsimp only at hSw); go_simp <;> with_reducible rfl); done)
    try simp only [Act.put, List.setIfInBounds_toArray, List.set_cons_zero, List.set_cons_succ]
    refine branch_one (i := 10) rfl (by kernel_rfl) (by rfl) (fun K hK => ?_)
    go_simp
    rw [← HV.out]
    refine hK.out _ _ (⟨v0, v1, v2, v3⟩) (fun hHeld => ?_)
    clear hK K
    try simp only [Act.put, List.setIfInBounds_toArray, List.set_cons_zero, List.set_cons_succ]
    refine wpAnyH_done (by kernel_rfl) ?_ _
    go_wp2
    go_end0
    rw [HQ.out]
    refine ⟨⟨_, rfl⟩, g, c1, na, nc, ?_⟩
    rw [← HKK.out, ← HNN.out, ← HAD.out]
    exact HBV.out
end Go.Proofs.YtkekenaamnhbhaaGreat
