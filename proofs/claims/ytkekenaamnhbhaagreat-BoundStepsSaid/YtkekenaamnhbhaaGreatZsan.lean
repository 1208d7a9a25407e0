/- Part 14 of the proof. No condition: every lemma says its own. -/
import Derived.Test.YtkekenaamnhbhaaGreatZsam
namespace Go.Proofs.YtkekenaamnhbhaaGreat
open Go.RowKit Go.BigFrame
open Go.RowKit Go.BigFrame Classical
set_option maxRecDepth 100000
set_option maxHeartbeats 16000000
def row0 (N : Nat) : Nat → List Nat
 | 0 => List.replicate N 0
 | k + 1 => (row0 N k).set k (2 ^ k)
def of0 (N : Nat) : Nat → List Int
 | 0 => List.replicate N 0
 | k + 1 => (of0 N k).set k (-1)
def edgS (rows : List Nat) (e : E4) : List Nat := rows.set e.fr.toNat (rows.getD e.fr.toNat 0 ||| 2 ^ e.tt.toNat)
def edgR (es : List E4) (rows : List Nat) : Nat → List Nat
 | 0 => rows
 | j + 1 => edgS (edgR es rows j) (es.getD j e40)
def warS (m n : Nat) (rows : List Nat) : List Nat := if (rows.getD n 0).testBit m then rows.set n (rows.getD n 0 ||| rows.getD m 0) else rows
def warI (m : Nat) (rows : List Nat) : Nat → List Nat
 | 0 => rows
 | n + 1 => warS m n (warI m rows n)
def warK (N : Nat) (rows : List Nat) : Nat → List Nat
 | 0 => rows
 | m + 1 => warI m (warK N rows m) N
def reaS (first : List Int) (rows : List Nat) (n r : Nat) : Nat := if first.getD n 0 ≠ 0 then r ||| rows.getD n 0 else r
def reaK (first : List Int) (rows : List Nat) : Nat → Nat
 | 0 => 0
 | n + 1 => reaS first rows n (reaK first rows n)
structure Ps where
 of : List Int
 L : List (List Int)
 fin : Bool
def pasB (rows : List Nat) (reached n : Nat) (s : Ps) : Bool := reached.testBit n && (decide (s.of.getD n 0 < 0) && !latN rows s.of reached n rows.length)
def pasS (rows : List Nat) (reached N n : Nat) (s : Ps) : Ps := if pasB rows reached n s then ⟨(addK rows n s.L.length s.of N).1, s.L ++ [(addK rows n s.L.length s.of N).2], false⟩ else s
def pasI (rows : List Nat) (reached N : Nat) (s : Ps) : Nat → Ps
 | 0 => ⟨s.of, s.L, true⟩
 | n + 1 => pasS rows reached N n (pasI rows reached N s n)
def pasK (rows : List Nat) (reached N : Nat) (of : List Int) : Nat → Ps
 | 0 => ⟨of, [], false⟩
 | j + 1 => pasI rows reached N (pasK rows reached N of j) N
def Raw (ps : List Pt) (L : List (List Int)) : Prop := ps.map (fun p => (p.nodes, p.loop, p.leads, p.opn)) = L.map (fun l => (l, false, false, false))
theorem Raw.length {ps : List Pt} {L : List (List Int)} (h : Raw ps L) : ps.length = L.length := by
 have := congrArg List.length h
 simpa using this
theorem Raw.push {ps : List Pt} {L : List (List Int)} (h : Raw ps L) (a : Option Nat) (c : Nat) (l : List Int) : Raw (ps ++ [⟨a, c, l, false, false, false⟩]) (L ++ [l]) := by
 unfold Raw at *
 simp [h]
def RL (rows : List Nat) : Prop := ∀ i, rows.getD i 0 < 2 ^ 64
theorem RL.set {rows : List Nat} (h : RL rows) (i v : Nat) (hv : v < 2 ^ 64) : RL (rows.set i v) := by
 intro j
 have := h j
 simp only [List.getD_eq_getElem?_getD, List.getElem?_set] at *
 split
 ·split
  ·simpa using hv
  ·simp
 ·exact this
theorem RL.zero (N : Nat) : RL (List.replicate N 0) := fun i => by
 simp only [List.getD_eq_getElem?_getD, List.getElem?_replicate]
 split <;> simp
theorem row0_ok (N : Nat) (hN : N ≤ 64) : ∀ k, k ≤ N → RL (row0 N k) ∧ (row0 N k).length = N
 | 0, _ => ⟨RL.zero N, by simp [row0]⟩
 | k + 1, hk => by
  obtain ⟨h1, h2⟩ := row0_ok N hN k (by omega)
  exact ⟨h1.set _ _ (two_pow_lt (by omega)), by simpa [row0] using h2⟩
theorem of0_length (N : Nat) : ∀ k, (of0 N k).length = N
 | 0 => by simp [of0]
 | k + 1 => by simpa [of0] using of0_length N k
theorem edgS_ok {rows : List Nat} (h : RL rows) (e : E4) (he : e.tt.toNat < 64) : RL (edgS rows e) ∧ (edgS rows e).length = rows.length := ⟨h.set _ _ (or_lt (h _) (two_pow_lt he)), by simp [edgS]⟩
theorem edgR_ok {es : List E4} (he : ∀ i, (es.getD i e40).tt.toNat < 64) {rows : List Nat} (h : RL rows) : ∀ j, RL (edgR es rows j) ∧ (edgR es rows j).length = rows.length
 | 0 => ⟨h, rfl⟩
 | j + 1 => by
  obtain ⟨h1, h2⟩ := edgR_ok he h j
  obtain ⟨h3, h4⟩ := edgS_ok h1 (es.getD j e40) (he j)
  exact ⟨h3, h4.trans h2⟩
theorem warS_ok {rows : List Nat} (h : RL rows) (m n : Nat) : RL (warS m n rows) ∧ (warS m n rows).length = rows.length := by
 unfold warS
 split
 ·exact ⟨h.set _ _ (or_lt (h _) (h _)), by simp⟩
 ·exact ⟨h, rfl⟩
theorem warI_ok (m : Nat) {rows : List Nat} (h : RL rows) : ∀ n, RL (warI m rows n) ∧ (warI m rows n).length = rows.length
 | 0 => ⟨h, rfl⟩
 | n + 1 => by
  obtain ⟨h1, h2⟩ := warI_ok m h n
  obtain ⟨h3, h4⟩ := warS_ok h1 m n
  exact ⟨h3, h4.trans h2⟩
theorem warK_ok (N : Nat) {rows : List Nat} (h : RL rows) : ∀ m, RL (warK N rows m) ∧ (warK N rows m).length = rows.length
 | 0 => ⟨h, rfl⟩
 | m + 1 => by
  obtain ⟨h1, h2⟩ := warK_ok N h m
  obtain ⟨h3, h4⟩ := warI_ok m h1 N
  exact ⟨h3, h4.trans h2⟩
theorem reaK_lt (first : List Int) {rows : List Nat} (h : RL rows) : ∀ n, reaK first rows n < 2 ^ 64
 | 0 => by simp [reaK]
 | n + 1 => by
  have ih := reaK_lt first h n
  simp only [reaK, reaS]
  split
  ·exact or_lt ih (h _)
  ·exact ih
theorem pasI_ok (rows : List Nat) (reached N : Nat) (s : Ps) : ∀ n, (pasI rows reached N s n).of.length = s.of.length ∧ (pasI rows reached N s n).L.length ≤ s.L.length + n ∧ s.L.length ≤ (pasI rows reached N s n).L.length ∧ ((pasI rows reached N s n).fin = false → s.L.length + 1 ≤ (pasI rows reached N s n).L.length)
 | 0 => ⟨rfl, Nat.le_refl _, Nat.le_refl _, fun h => by cases h⟩
 | n + 1 => by
  obtain ⟨h1, h2, h3, h4⟩ := pasI_ok rows reached N s n
  simp only [pasI, pasS]
  split
  ·refine ⟨by rw [(addK_length _ _ _ _ _).1]; exact h1, by simp; omega, by simp; omega, fun _ => by simp; omega⟩
  ·exact ⟨h1, by omega, h3, h4⟩
theorem pasK_ok (rows : List Nat) (reached N : Nat) (of : List Int) : ∀ j, (pasK rows reached N of j).of.length = of.length ∧ (pasK rows reached N of j).L.length ≤ j * N
 | 0 => ⟨rfl, by simp [pasK]⟩
 | j + 1 => by
  obtain ⟨h1, h2⟩ := pasK_ok rows reached N of j
  obtain ⟨h3, h4, _, _⟩ := pasI_ok rows reached N (pasK rows reached N of j) N
  exact ⟨h3.trans h1, by rw [Nat.succ_mul]; exact Nat.le_trans h4 (by omega)⟩
def setLp (ps : List Pt) (i : Nat) : List Pt := ps.set i { ps.getD i pt0 with loop := true }
def setLd (ps : List Pt) (i : Nat) (b : Bool) : List Pt := ps.set i { ps.getD i pt0 with leads := b }
def setOp (ps : List Pt) (i : Nat) (b : Bool) : List Pt := ps.set i { ps.getD i pt0 with opn := b }
def lpB (of : List Int) (e : E4) : Bool := decide (0 ≤ of.getD e.fr.toNat 0) && decide (of.getD e.fr.toNat 0 = of.getD e.tt.toNat 0)
def lpS (of : List Int) (e : E4) (ps : List Pt) : List Pt := if lpB of e then setLp ps (of.getD e.fr.toNat 0).toNat else ps
def lpK (of : List Int) (es : List E4) (ps : List Pt) : Nat → List Pt
 | 0 => ps
 | k + 1 => lpS of (es.getD k e40) (lpK of es ps k)
def rdK (es : List E4) : Nat → Int → Nat
 | 0, _ => 0
 | k + 1, c => if (es.getD k e40).cl = c then rdK es k c ||| 2 ^ (es.getD k e40).fr.toNat else rdK es k c
def mtK (es : List E4) (rd : Int → Nat) (N : Nat) : Nat → List Nat
 | 0 => List.replicate N 0
 | k + 1 => (mtK es rd N k).set (es.getD k e40).fr.toNat ((mtK es rd N k).getD (es.getD k e40).fr.toNat 0 ||| rd (es.getD k e40).cl)
def opE (of : List Int) (mt : List Nat) (es : List E4) (i : Nat) (n : Nat) (c : Int) : Bool := decide (of.getD n 0 = i) && opnK of mt i (sel es n c) (sel es n c).length
def opB (of : List Int) (mt : List Nat) (es : List E4) (i : Nat) : Bool := es.any fun e => opE of mt es i e.fr.toNat e.cl
def opA (of : List Int) (mt : List Nat) (es : List E4) (ps : List Pt) : List Pt := ps.mapIdx fun i p => { p with opn := p.opn || (p.loop && opB of mt es i) }
def ldS (of : List Int) (i : Nat) (e : E4) (q : List Pt) : List Pt := if decide (of.getD e.fr.toNat 0 = i) && (q.getD (of.getD e.tt.toNat 0).toNat pt0).leads then setLd q i true else q
def ldI (of : List Int) (es : List E4) (i : Nat) (ps : List Pt) : Nat → List Pt
 | 0 => setLd ps i (ps.getD i pt0).loop
 | k + 1 => ldS of i (es.getD k e40) (ldI of es i ps k)
def ldK (of : List Int) (es : List E4) (ps : List Pt) : Nat → List Pt
 | 0 => ps
 | j + 1 => ldI of es (ps.length - 1 - j) (ldK of es ps j) es.length
def desP (of : List Int) (es : List E4) (N : Nat) (ps : List Pt) : List Pt := ldK of es (opA of (mtK es (rdK es es.length) N es.length) es (lpK of es ps es.length)) ps.length
structure DesPre (x : Gr) (of : List Int) (K : Nat) : Prop where
 ho : of.length = x.nodes.length
 hN : x.nodes.length ≤ 64
 hK : K ≤ 1000000
 hof : ∀ i, of.getD i 0 < K
 hE : ∀ i, i < x.edges.length → (0 ≤ (x.edges.getD i e40).fr ∧ (x.edges.getD i e40).fr < x.nodes.length) ∧ (0 ≤ (x.edges.getD i e40).tt ∧ (x.edges.getD i e40).tt < x.nodes.length) ∧ 0 ≤ (x.edges.getD i e40).cl ∧ (x.edges.getD i e40).cl ≤ 1000000
 hel : x.edges.length ≤ 1000000
 hcl : ∀ i, i < x.edges.length → 0 ≤ of.getD (x.edges.getD i e40).fr.toNat 0 → 0 ≤ of.getD (x.edges.getD i e40).tt.toNat 0
def DesOut (W0 : World) (gb : Nat) (x : Gr) (rb ob : Nat) (rows : List Nat) (of : List Int) (ps : List Pt) (e : Ending) (w' : World) : Prop :=
 (∃ v, e = .returned v) ∧ ∃ pa pc, BN W0 w' gb x rb ob pa pc rows of (desP of x.edges x.nodes.length ps)
def DesOK : Prop := ∀ (W0 w : World) (gb : Nat) (x : Gr) (rb ob : Nat) (pa : Option Nat) (pc : Nat) (rows : List Nat) (of : List Int) (ps : List Pt), BN W0 w gb x rb ob pa pc rows of ps → DesPre x of ps.length →
 Calls Tryz.prog 64 #[.pointer (some ⟨gb, 0, none⟩)] w (DesOut W0 gb x rb ob rows of ps)
def duov (a b : Int) : Value := .agg #[.int .i64 a, .int .i64 b]
theorem duov_inj {a b c d : Int} (h : duov a b = duov c d) : a = c ∧ b = d := by
 simp [duov] at h
 exact h
theorem duoRow : (136 : TypeId) < Tryz.prog.types.size := of_decide_eq_true (by kernel_rfl)
theorem duoWide : (match Tryz.prog.underlying 136 with | some (.array _ _) | some (.struct _) => true | _ => false) = true := by rw [Tryz.underlying136]
theorem duoKeyed : Maps.Keyed Tryz.prog 136 := Maps.Keyed.of_law (deep_law_laid laidOutA (m := 2) (by omega) duoRow (by kernel_rfl) duoWide)
theorem duoDeep : Tryz.prog.keyType 136 = true := by kernel_rfl
theorem duoCells : Tryz.prog.cellsOf 136 = 2 := by kernel_rfl
theorem key2 {x y : Int} (h1 : M64 x) (h2 : M64 y) : IsKey Tryz.prog 136 (duov x y) := by
 obtain ⟨d, hd⟩ := sizeTypes
 have hl : Tryz.prog.keyLits (d + 1 + 1) 136 [.int .i64 x, .int .i64 y] = some [.int .i64 x, .int .i64 y] := by
  simp [Program.keyLits, Tryz.underlying136, Tryz.underlying3, duoCells, intCells, wf_i64 h1, wf_i64 h2, List.range, List.range.loop]
 refine ⟨.string (keyBytes [.int .i64 x, .int .i64 y]), ?_⟩
 unfold keyOf
 rw [Tryz.underlying136]
 simp only [duoDeep, Value.formed, Tryz.underlying136, duov, duoCells, hd, Value.cells, hl]
 simp
def ByG (sl : Nat → Int → Option Nat × Nat) (es : List E4) (g : Value → Option Value) : Prop :=
 (∀ (n : Nat) c, g (duov n c) = if sel es n c = [] then none else some (sv (sl n c).1 (sel es n c).length (sl n c).2)) ∧ ∀ v, (g v).isSome = true → ∃ (n : Nat) (c : Int), v = duov n c ∧ sel es n c ≠ []
structure By (w : World) (mb : Nat) (sl : Nat → Int → Option Nat × Nat) (es : List E4) : Prop where
 map : ∃ g, MapAt w Tryz.prog 136 mb es.length g ∧ ByG sl es g
 sls : ∀ n c, SliceAt w 125 4 (sl n c).1 (sel es n c).length (sl n c).2 (flatE (sel es n c))
 nil : ∀ n c, sel es n c = [] → sl n c = (none, 0)
structure ByA (base : Nat) (mb : Nat) (sl : Nat → Int → Option Nat × Nat) : Prop where
 mbo : base ≤ mb
 slo : ∀ n c g, (sl n c).1 = some g → base ≤ g ∧ g ≠ mb
 one : ∀ n m c d g, (sl n c).1 = some g → (sl m d).1 = some g → n = m ∧ c = d
theorem By.keep {w w' : World} {mb : Nat} {sl : Nat → Int → Option Nat × Nat} {es : List E4} {S : List Nat} {base : Nat} (h : By w mb sl es) (a : ByA base mb sl) (k : Keeps S w w') (hS : ∀ x ∈ S, x < base) : By w' mb sl es := by
 refine ⟨?_, fun n c => (h.sls n c).keep k fun g hg hs => ?_, h.nil⟩
 ·obtain ⟨g, h1, h2⟩ := h.map
  exact ⟨g, h1.keep k (fun hs => by have := hS _ hs; have := a.mbo; omega), h2⟩
 ·have := (a.slo n c g hg).1
  have := hS _ hs
  omega
theorem By.lt {w : World} {mb : Nat} {sl : Nat → Int → Option Nat × Nat} {es : List E4} (h : By w mb sl es) : mb < w.heap.size := by
 obtain ⟨g, h1, _⟩ := h.map
 exact h1.lt
theorem By.slt {w : World} {mb : Nat} {sl : Nat → Int → Option Nat × Nat} {es : List E4} (h : By w mb sl es) {n : Nat} {c : Int} {g : Nat} (hg : (sl n c).1 = some g) : g < w.heap.size := by
 have h1 := h.sls n c
 rw [hg] at h1
 exact h1.lt
theorem By.made {w : World} {mb : Nat} (h : MapAt w Tryz.prog 136 mb 0 (fun _ => none)) : By w mb (fun _ _ => (none, 0)) ([] : List E4) :=
 ⟨⟨_, h, fun n c => by simp [sel], fun v hv => by cases hv⟩, fun n c => SliceAt.nil _ _ _, fun _ _ _ => rfl⟩
theorem ByA.made {base mb : Nat} (h : base ≤ mb) : ByA base mb (fun _ _ => (none, 0)) := ⟨h, (fun n c g hg => by cases hg), (fun n m c d g hg => by cases hg)⟩
theorem By.step {w w2 w3 : World} {mb : Nat} {sl : Nat → Int → Option Nat × Nat} {es : List E4} {base : Nat} (h : By w mb sl es) (a : ByA base mb sl) {e : E4} {n : Nat} (hf : e.fr = n)
  {g c2 : Nat} (h1 : SliceAt w2 125 4 (some g) ((sel es n e.cl).length + 1) c2 (flatE (sel es n e.cl) ++ e.cells)) (k1 : Keeps (sl n e.cl).1.toList w w2) (hg : (sl n e.cl).1 = some g ∨ w.heap.size ≤ g)
  (k2 : Keeps [mb] w2 w3) (gm : Value → Option Value) (hgm : ByG sl es gm)
  (h2 : MapAt w3 Tryz.prog 136 mb (es.length + 1) (fun u => if u = duov n e.cl then some (sv (some g) ((sel es n e.cl).length + 1) c2) else gm u)) (hb : base ≤ w.heap.size) :
  By w3 mb (updS sl n e.cl (some g, c2)) (es ++ [e]) ∧ ByA base mb (updS sl n e.cl (some g, c2)) := by
 have hgmb : g ≠ mb := by
  rcases hg with hg | hg
  ·exact (a.slo n e.cl g hg).2
  ·have := h.lt; omega
 have hgo : base ≤ g := by
  rcases hg with hg | hg
  ·exact (a.slo n e.cl g hg).1
  ·omega
 have hne : ∀ m d, ¬ (m = n ∧ d = e.cl) → ∀ k, (sl m d).1 = some k → k ≠ g ∧ k ∉ (sl n e.cl).1.toList := fun m d hnd k hk => by
  constructor
  ·intro e1
   subst e1
   rcases hg with hg | hg
   ·exact hnd (a.one m n d e.cl k hk hg)
   ·have := h.slt hk; omega
  ·intro hmem
   have : (sl n e.cl).1 = some k := by simpa using hmem
   exact hnd (a.one m n d e.cl k hk this)
 have hcl : ∀ m d, sel (es ++ [e]) m d = if m = n ∧ d = e.cl then sel es n e.cl ++ [e] else sel es m d := fun m d => by
  rw [sel_snoc]
  by_cases hc : m = n ∧ d = e.cl
  ·obtain ⟨rfl, rfl⟩ := hc
   rw [if_pos ⟨hf, rfl⟩, if_pos ⟨rfl, rfl⟩]
  ·rw [if_neg hc, if_neg]
   rintro ⟨h3, h4⟩
   exact hc ⟨by rw [hf] at h3; exact_mod_cast h3.symm, h4.symm⟩
 have hu1 : updS sl n e.cl (some g, c2) n e.cl = (some g, c2) := by simp [updS]
 have hu2 : ∀ m d, ¬ (m = n ∧ d = e.cl) → updS sl n e.cl (some g, c2) m d = sl m d := fun m d hc => by simp only [updS, if_neg hc]
 refine ⟨⟨⟨_, by rw [List.length_append, List.length_singleton]; exact h2, fun m d => ?_, fun v hv => ?_⟩, fun m d => ?_, fun m d hnil => ?_⟩, a.mbo, fun m d k hk => ?_, fun m m' d d' k hk hk' => ?_⟩
 ·by_cases hc : m = n ∧ d = e.cl
  ·obtain ⟨rfl, rfl⟩ := hc
   rw [show sel (es ++ [e]) m e.cl = sel es m e.cl ++ [e] by rw [hcl m e.cl, if_pos ⟨rfl, rfl⟩], hu1]
   simp
  ·rw [show sel (es ++ [e]) m d = sel es m d by rw [hcl m d, if_neg hc], hu2 m d hc, ← hgm.1 m d, if_neg]
   intro e2
   obtain ⟨e3, e4⟩ := duov_inj e2
   exact hc ⟨by exact_mod_cast e3, e4⟩
 ·by_cases hv2 : v = duov n e.cl
  ·exact ⟨n, e.cl, hv2, by rw [hcl n e.cl, if_pos ⟨rfl, rfl⟩]; simp⟩
  ·simp only [if_neg hv2] at hv
   obtain ⟨m, d, e2, e3⟩ := hgm.2 v hv
   refine ⟨m, d, e2, ?_⟩
   rw [hcl]
   split
   ·simp
   ·exact e3
 ·by_cases hc : m = n ∧ d = e.cl
  ·obtain ⟨rfl, rfl⟩ := hc
   rw [hcl m e.cl, if_pos ⟨rfl, rfl⟩, hu1, List.length_append, List.length_singleton, flatE_append]
   have := h1.keep k2 (fun k hk => by simp only [Option.some.injEq] at hk; subst hk; simpa using hgmb)
   simpa [flatE] using this
  ·rw [hcl m d, if_neg hc, hu2 m d hc]
   refine ((h.sls m d).keep k1 fun k hk => (hne m d hc k hk).2).keep k2 fun k hk => ?_
   simp only [List.mem_singleton]
   exact (a.slo m d k hk).2
 ·by_cases hc : m = n ∧ d = e.cl
  ·obtain ⟨rfl, rfl⟩ := hc
   rw [hcl m e.cl, if_pos ⟨rfl, rfl⟩] at hnil
   simp at hnil
  ·rw [hcl m d, if_neg hc] at hnil
   rw [hu2 m d hc]
   exact h.nil m d hnil
 ·by_cases hc : m = n ∧ d = e.cl
  ·obtain ⟨rfl, rfl⟩ := hc
   rw [hu1] at hk
   simp only [Option.some.injEq] at hk
   subst hk
   exact ⟨hgo, hgmb⟩
  ·rw [hu2 m d hc] at hk
   exact a.slo m d k hk
 ·by_cases hc : m = n ∧ d = e.cl
  ·obtain ⟨rfl, rfl⟩ := hc
   rw [hu1] at hk
   simp only [Option.some.injEq] at hk
   subst hk
   by_cases hc' : m' = m ∧ d' = e.cl
   ·exact ⟨hc'.1.symm, hc'.2.symm⟩
   ·rw [hu2 m' d' hc'] at hk'
    exact absurd rfl (hne m' d' hc' _ hk').1
  ·rw [hu2 m d hc] at hk
   by_cases hc' : m' = n ∧ d' = e.cl
   ·obtain ⟨rfl, rfl⟩ := hc'
    rw [hu1] at hk'
    simp only [Option.some.injEq] at hk'
    exact absurd hk'.symm (hne m d hc _ hk).1
   ·rw [hu2 m' d' hc'] at hk'
    exact a.one m m' d d' k hk hk'
theorem SliceAt.setN {w : World} {e s g n c : Nat} {xs : List Value} (h : SliceAt w e s (some g) n c xs) (i : Nat) (v : Value) : SliceAt (w.setCell ⟨g, i, none⟩ v) e s (some g) n c (xs.set i v) := by
 obtain ⟨h1, cur, h2, h3, h4, h5, h6⟩ := h
 refine ⟨by simpa using h1, _, heap_setCell_same w g i _ e v h2, h3, h4, by simpa using h5, ?_⟩
 subst h6
 simp [List.take_set]
theorem ptRow_set (q : Pt) (j : Nat) (v : Value) : ∀ (ps : List Pt) (i : Nat), i < ps.length → j < 4 → q.row = (ps.getD i pt0).row.set j v → (ptRow ps).set (i * 4 + j) v = ptRow (ps.set i q)
 | [], i, h, _, _ => by simp at h
 | p :: ps, 0, _, hj, e => by
  have hl : p.row.length = 4 := by simp [Pt.row]
  simp only [ptRow, List.flatMap_cons, List.set_cons_zero, Nat.zero_mul, Nat.zero_add]
  rw [List.set_append_left _ _ (by omega), e]
  rfl
 | p :: ps, i + 1, h, hj, e => by
  have hl : p.row.length = 4 := by simp [Pt.row]
  have ih := ptRow_set q j v ps i (by simpa using h) hj (by simpa using e)
  simp only [ptRow, List.flatMap_cons, List.set_cons_succ] at ih ⊢
  rw [List.set_append_right _ _ (by omega), show (i + 1) * 4 + j - p.row.length = i * 4 + j by omega, ih]
theorem BN.setPt {W0 w : World} {gb : Nat} {x : Gr} {rb ob : Nat} {pb : Nat} {pc : Nat} {rows : List Nat} {of : List Int} {ps : List Pt} (h : BN W0 w gb x rb ob (some pb) pc rows of ps) (q : Pt) (i j : Nat) (v : Value) (hi : i < ps.length) (hj : j < 4) (hq : q.row = (ps.getD i pt0).row.set j v)
  (hn : q.na = (ps.getD i pt0).na ∧ q.nodes = (ps.getD i pt0).nodes ∧ q.nc = (ps.getD i pt0).nc) : BN W0 (w.setCell ⟨pb, i * 4 + j, none⟩ v) gb x rb ob (some pb) pc rows of (ps.set i q) := by
 have hp := h.np pb rfl
 have k1 : Keeps [pb] w (w.setCell ⟨pb, i * 4 + j, none⟩ v) := (Keeps.refl [pb] w).setCell (by simp) _
 have K : Keeps [] W0 (w.setCell ⟨pb, i * 4 + j, none⟩ v) := h.k.after k1 (fun b hb => .inr (by simp at hb; subst hb; exact hp.1))
 have hs := h.bg.prt.setN (i * 4 + j) v
 rw [ptRow_set q j v ps i hi hj hq] at hs
 have hmem : ps.getD i pt0 ∈ ps := by
  rw [List.getD_eq_getElem?_getD, List.getElem?_eq_getElem hi]
  exact List.getElem_mem hi
 have hcase : ∀ p ∈ ps.set i q, ∃ p0 ∈ ps, p.na = p0.na ∧ p.nodes = p0.nodes ∧ p.nc = p0.nc := fun p hp => by
  rcases List.mem_or_eq_of_mem_set hp with e | e
  ·exact ⟨p, e, rfl, rfl, rfl⟩
  ·subst e; exact ⟨_, hmem, hn⟩
 refine ⟨⟨h.g0.keep K, ?_, h.bg.rw.keep k1 (fun g e => by cases e; simpa using Ne.symm hp.2.2.1), h.bg.ofs.keep k1 (fun g e => by cases e; simpa using Ne.symm hp.2.2.2), ?_, fun p hp2 => ?_⟩, K, h.g0, h.ng, h.nr, h.no, h.np, h.ne, fun p hp2 nb e => ?_⟩
 ·rw [List.length_set]; exact k1.heap h.bg.box (by simpa using Ne.symm hp.2.1)
 ·rw [List.length_set]; exact hs
 ·obtain ⟨p0, h0, e1, e2, e3⟩ := hcase p hp2
  rw [e1, e2, e3]
  exact (h.bg.nds p0 h0).keep k1 (fun g e => by have := (h.nn p0 h0 g e).2.2.2; simp only [List.mem_singleton]; intro e4; exact this (by rw [e4]))
 ·obtain ⟨p0, h0, e1, e2, e3⟩ := hcase p hp2
  exact h.nn p0 h0 nb (by rw [← e1]; exact e)
def opV (of : List Int) (mt : List Nat) (es : List E4) (V : Nat → Int → Bool) (i : Nat) : Bool := es.any fun e => V e.fr.toNat e.cl && opE of mt es i e.fr.toNat e.cl
def opL (of : List Int) (mt : List Nat) (es : List E4) (V : Nat → Int → Bool) (ps : List Pt) : List Pt := ps.mapIdx fun i p => { p with opn := p.opn || (p.loop && opV of mt es V i) }
theorem opL_length (of : List Int) (mt : List Nat) (es : List E4) (V : Nat → Int → Bool) (ps : List Pt) : (opL of mt es V ps).length = ps.length := by simp [opL]
theorem opL_get (of : List Int) (mt : List Nat) (es : List E4) (V : Nat → Int → Bool) (ps : List Pt) {i : Nat} (hi : i < ps.length) : (opL of mt es V ps).getD i pt0 = { ps.getD i pt0 with opn := (ps.getD i pt0).opn || ((ps.getD i pt0).loop && opV of mt es V i) } := by
 simp only [List.getD_eq_getElem?_getD, opL, List.getElem?_mapIdx, List.getElem?_eq_getElem hi, Option.map_some, Option.getD_some]
theorem opL_none (of : List Int) (mt : List Nat) (es : List E4) (V : Nat → Int → Bool) (ps : List Pt) (h : ∀ e ∈ es, V e.fr.toNat e.cl = false) : opL of mt es V ps = ps := by
 have h2 : ∀ i, opV of mt es V i = false := fun i => by
  unfold opV
  rw [List.any_eq_false]
  intro e he
  simp [h e he]
 apply List.ext_getElem
 ·simp [opL]
 ·intro i h3 h4
  simp [opL, h2]
theorem opL_all (of : List Int) (mt : List Nat) (es : List E4) (V : Nat → Int → Bool) (ps : List Pt) (h : ∀ e ∈ es, V e.fr.toNat e.cl = true) : opL of mt es V ps = opA of mt es ps := by
 have h2 : ∀ i, opV of mt es V i = opB of mt es i := fun i => by
  unfold opV opB
  rw [Bool.eq_iff_iff, List.any_eq_true, List.any_eq_true]
  constructor
  ·rintro ⟨e, he, h3⟩
   rw [h e he, Bool.true_and] at h3
   exact ⟨e, he, h3⟩
  ·rintro ⟨e, he, h3⟩
   exact ⟨e, he, by rw [h e he, Bool.true_and]; exact h3⟩
 simp only [opL, opA, h2]
def addV (V : Nat → Int → Bool) (n : Nat) (c : Int) : Nat → Int → Bool := fun m d => V m d || (decide (m = n) && decide (d = c))
theorem opV_add {of : List Int} {mt : List Nat} {es : List E4} {V : Nat → Int → Bool} {n : Nat} {c : Int} (hk : sel es n c ≠ []) (i : Nat) : opV of mt es (addV V n c) i = (opV of mt es V i || opE of mt es i n c) := by
 obtain ⟨e, he⟩ := List.exists_mem_of_ne_nil _ hk
 obtain ⟨h1, h2, h3⟩ := mem_sel.1 he
 have h4 : e.fr.toNat = n := by omega
 unfold opV
 rw [Bool.eq_iff_iff, List.any_eq_true, Bool.or_eq_true, List.any_eq_true]
 constructor
 ·rintro ⟨f, hf, h5⟩
  rw [Bool.and_eq_true] at h5
  obtain ⟨h6, h7⟩ := h5
  unfold addV at h6
  rw [Bool.or_eq_true] at h6
  rcases h6 with h6 | h6
  ·exact .inl ⟨f, hf, by rw [h6, h7]; rfl⟩
  ·simp only [Bool.and_eq_true, decide_eq_true_eq] at h6
   rw [h6.1, h6.2] at h7
   exact .inr h7
 ·rintro (⟨f, hf, h5⟩ | h5)
  ·rw [Bool.and_eq_true] at h5
   exact ⟨f, hf, by rw [Bool.and_eq_true]; exact ⟨by unfold addV; rw [h5.1]; rfl, h5.2⟩⟩
  ·exact ⟨e, h1, by rw [Bool.and_eq_true, h4, h3]; exact ⟨by unfold addV; simp, h5⟩⟩
theorem opL_same {of : List Int} {mt : List Nat} {es : List E4} {V : Nat → Int → Bool} {n : Nat} {c : Int} (hk : sel es n c ≠ []) (ps : List Pt) (h : ∀ i, i < ps.length → of.getD n 0 = i → (ps.getD i pt0).loop = false ∨ ((opL of mt es V ps).getD i pt0).opn = true) : opL of mt es (addV V n c) ps = opL of mt es V ps := by
 apply List.ext_getElem
 ·simp [opL]
 ·intro i h1 h2
  have hi : i < ps.length := by simpa [opL] using h1
  simp only [opL, List.getElem_mapIdx]
  rw [opV_add hk]
  cases he : opE of mt es i n c with
  | false => rw [Bool.or_false]
  | true =>
   have hof : of.getD n 0 = i := by
    unfold opE at he
    simp only [Bool.and_eq_true, decide_eq_true_eq] at he
    exact he.1
   have := h i hi hof
   rw [opL_get of mt es V ps hi] at this
   simp only [List.getD_eq_getElem?_getD, List.getElem?_eq_getElem hi, Option.getD_some] at this
   rcases this with h3 | h3
   ·rw [h3]; simp
   ·have h4 : (ps[i].opn || (ps[i].loop && (opV of mt es V i || true))) = true := by
     rw [Bool.or_eq_true] at h3 ⊢
     rcases h3 with h3 | h3
     ·exact .inl h3
     ·rw [Bool.and_eq_true] at h3
      exact .inr (by rw [h3.1]; simp)
    rw [h4, h3]
theorem opL_set {of : List Int} {mt : List Nat} {es : List E4} {V : Nat → Int → Bool} {n f : Nat} {c : Int} (hk : sel es n c ≠ []) (ps : List Pt) (hf : f < ps.length) (hof : of.getD n 0 = f) (hl : (ps.getD f pt0).loop = true) (ho : ((opL of mt es V ps).getD f pt0).opn = false) :
  opL of mt es (addV V n c) ps = setOp (opL of mt es V ps) f (opnK of mt f (sel es n c) (sel es n c).length) := by
 rw [opL_get of mt es V ps hf] at ho
 simp only [Bool.or_eq_false_iff] at ho
 obtain ⟨ho1, ho2⟩ := ho
 rw [hl, Bool.true_and] at ho2
 apply List.ext_getElem
 ·simp [opL, setOp]
 ·intro i h1 h2
  have hi : i < ps.length := by simpa [opL] using h1
  by_cases hif : i = f
  ·subst hif
   simp only [setOp, List.getElem_set_self]
   rw [opL_get of mt es V ps hi]
   simp only [opL, List.getElem_mapIdx]
   rw [opV_add hk, ho2, Bool.false_or]
   have e1 : ps.getD i pt0 = ps[i] := by rw [List.getD_eq_getElem?_getD, List.getElem?_eq_getElem hi]; rfl
   rw [e1] at ho1 hl ⊢
   simp only [ho1, hl, Bool.false_or, Bool.true_and, opE, hof, decide_true]
  ·have hne : opE of mt es i n c = false := by
    unfold opE
    rw [hof]
    have : decide ((f : Int) = i) = false := by
     rw [decide_eq_false_iff_not]
     omega
    rw [this]; rfl
   simp only [setOp, List.getElem_set_ne (Ne.symm hif)]
   simp only [opL, List.getElem_mapIdx]
   rw [opV_add hk, hne, Bool.or_false]
theorem setLp_length (ps : List Pt) (i : Nat) : (setLp ps i).length = ps.length := by simp [setLp]
theorem setLd_length (ps : List Pt) (i : Nat) (b : Bool) : (setLd ps i b).length = ps.length := by simp [setLd]
def NaLt (ps : List Pt) (H : Nat) : Prop := ∀ p ∈ ps, ∀ nb, p.na = some nb → nb < H
theorem NaLt.set {ps : List Pt} {H : Nat} (h : NaLt ps H) (i : Nat) (q : Pt) (hq : q.na = (ps.getD i pt0).na) : NaLt (ps.set i q) H := by
 intro p hp nb e
 rcases List.mem_or_eq_of_mem_set hp with e1 | e1
 ·exact h p e1 nb e
 ·subst e1
  rw [hq] at e
  by_cases hi : i < ps.length
  ·rw [List.getD_eq_getElem?_getD, List.getElem?_eq_getElem hi] at e
   exact h _ (List.getElem_mem hi) nb e
  ·rw [List.getD_eq_getElem?_getD, List.getElem?_eq_none (by omega)] at e
   cases e
structure BH (H : Nat) (W0 : World) (gb rb ob pb : Nat) : Prop where
 w : W0.heap.size ≤ H
 g : gb < H
 r : rb < H
 o : ob < H
 p : pb < H
theorem BN.keepN {S : List Nat} {H : Nat} {W0 w w' : World} {gb : Nat} {x : Gr} {rb ob : Nat} {pb : Nat} {pc : Nat} {rows : List Nat} {of : List Int} {ps : List Pt} (h : BN W0 w gb x rb ob (some pb) pc rows of ps) (k : Keeps S w w') (hH : BH H W0 gb rb ob pb) (hn : NaLt ps H) (hS : ∀ b ∈ S, H ≤ b) : BN W0 w' gb x rb ob (some pb) pc rows of ps :=
 h.keepS k (fun b hb => by
  have h1 := hS b hb
  have h2 := hH.w
  have h3 := hH.g
  have h4 := hH.r
  have h5 := hH.o
  have h6 := hH.p
  exact ⟨by omega, by omega, by omega, by omega, fun e => by cases e; omega, fun p hp e => by have := hn p hp b e; omega⟩)
def RdAt (w : World) (rm : Nat) (es : List E4) (k : Nat) : Prop := ∃ g, MapAt w Tryz.prog 3 rm k g ∧ ∀ c : Int, (g (.int .i64 c)).getD (.int .u64 0) = .int .u64 (rdK es k c : Nat)
theorem RdAt.keep {w w' : World} {rm : Nat} {es : List E4} {k : Nat} (h : RdAt w rm es k) {S : List Nat} (K : Keeps S w w') (hS : rm ∉ S) : RdAt w' rm es k := by
 obtain ⟨g, h1, h2⟩ := h
 exact ⟨g, h1.keep K hS, h2⟩
theorem RdAt.lt {w : World} {rm : Nat} {es : List E4} {k : Nat} (h : RdAt w rm es k) : rm < w.heap.size := by
 obtain ⟨g, h1, _⟩ := h
 exact h1.lt
theorem rdK_lt (es : List E4) (he : ∀ i, (es.getD i e40).fr.toNat < 64) (c : Int) : ∀ k, rdK es k c < 2 ^ 64
 | 0 => by simp [rdK]
 | k + 1 => by
  have ih := rdK_lt es he c k
  simp only [rdK]
  split
  ·exact or_lt ih (two_pow_lt (he k))
  ·exact ih
theorem mtK_ok (es : List E4) (rd : Int → Nat) (hr : ∀ c, rd c < 2 ^ 64) (N : Nat) : ∀ k, RL (mtK es rd N k) ∧ (mtK es rd N k).length = N
 | 0 => ⟨RL.zero N, by simp [mtK]⟩
 | k + 1 => by
  obtain ⟨h1, h2⟩ := mtK_ok es rd hr N k
  exact ⟨h1.set _ _ (or_lt (h1 _) (hr _)), by simpa [mtK] using h2⟩
end Go.Proofs.YtkekenaamnhbhaaGreat
