/- Part 40 of the proof. No condition: every lemma says its own. -/
import Derived.Test.YtphnbmdcgcchaaaDoorEbl
import Derived.Test.YtphnbmdcgcchaaaDoorEbm
namespace Go.Proofs.YtphnbmdcgcchaaaDoor
open Go.RowKit
open Go.RowKit Go.Sort Go.BigFrame
set_option maxRecDepth 100000
set_option maxHeartbeats 16000000
def insA (x y : Int) : Ins := ⟨2, x, y, 0, none, 0, []⟩
def insJ (x : Int) : Ins := ⟨3, x, 0, 0, none, 0, []⟩
def insS (p : Option Addr) (c : Int) : Ins := ⟨1, 0, 0, 0, p, 1, [(c, c)]⟩
def insD : Ins := ⟨0, 0, 0, 0, none, 0, []⟩
def ins1 (p q : Option Addr) : List Ins := [insA 1 6, insA 2 4, insS p 97, insJ 0, insS p 97, insJ 0, insS q 98, insD]
def ins2 (p q : Option Addr) : List Ins := [insA 1 3, insS p 97, insJ 0, insA 4 6, insS p 97, insJ 3, insS q 98, insD]
def rdsX (p q : Option Addr) : List Cl := [⟨p, 1, [(97, 97)]⟩, ⟨p, 1, [(97, 97)]⟩, ⟨q, 1, [(98, 98)]⟩]
def rho1 (n : Nat) : Nat := [2, 1, 0, 3, 0, 3, 0, 0].getD n 0
def rho2 (n : Nat) : Nat := [2, 0, 3, 1, 0, 2, 0, 0].getD n 0
def ix1 (n : Nat) : Nat := [0, 0, 0, 0, 1, 0, 2, 3].getD n 0
def ix2 (n : Nat) : Nat := [0, 0, 0, 0, 1, 0, 2, 3].getD n 0
theorem endsX (p q : Option Addr) : endsK 255 (rdsX p q) (rdsX p q).length = [(97, 0, 0), (98, 0, 0), (97, 1, 0), (98, 1, 0), (98, 2, 0), (99, 2, 0)] := rfl
theorem splitX : SplitAt 255 [(97, 0, 0), (98, 0, 0), (97, 1, 0), (98, 1, 0), (98, 2, 0), (99, 2, 0)] 4 := ⟨by decide +kernel, by decide +kernel⟩
theorem outX : (splitN 255 [(97, 0, 0), (98, 0, 0), (97, 1, 0), (98, 1, 0), (98, 2, 0), (99, 2, 0)] 4).out = [[(0, 96), (99, 255)], [(97, 97)], [(98, 98)]] := by decide +kernel
theorem clsX {p q : Option Addr} {cls : List Cl} (h : ∃ j, SplitAt 255 (endsK 255 (rdsX p q) (rdsX p q).length) j ∧ cls.map Cl.sp = (splitN 255 (endsK 255 (rdsX p q) (rdsX p q).length) j).out) :
  ∃ a0 c0 a1 c1 a2 c2, cls = [⟨a0, c0, [(0, 96), (99, 255)]⟩, ⟨a1, c1, [(97, 97)]⟩, ⟨a2, c2, [(98, 98)]⟩] := by
 obtain ⟨j, h1, h2⟩ := h
 rw [endsX] at h1 h2
 obtain rfl := h1.uniq splitX
 rw [outX] at h2
 match cls, h2 with
 | [⟨a0, c0, s0⟩, ⟨a1, c1, s1⟩, ⟨a2, c2, s2⟩], h2 =>
  simp only [List.map_cons, List.map_nil, List.cons.injEq, and_true] at h2
  obtain ⟨rfl, rfl, rfl⟩ := h2
  exact ⟨a0, c0, a1, c1, a2, c2, rfl⟩
theorem inok_A {m : Nat} {x y : Int} (h : (0 ≤ x ∧ x < m) ∧ 0 ≤ y ∧ y < m) : InOK m 0 false (insA x y) := .inr (.inr (.inl ⟨rfl, h.1, h.2, rfl, rfl⟩))
theorem inok_J {m : Nat} {x : Int} (h : 0 ≤ x ∧ x < m) : InOK m 0 false (insJ x) := .inr (.inr (.inr (.inl ⟨rfl, h, rfl, rfl, rfl⟩)))
theorem inok_D {m : Nat} : InOK m 0 false insD := .inl ⟨rfl, rfl, rfl, rfl, rfl⟩
theorem inok_S {m : Nat} {p : Option Addr} {c : Int} (h : 0 ≤ c ∧ c ≤ 255) : InOK m 0 false (insS p c) := .inr (.inl ⟨rfl, rfl, rfl, rfl, by simp [insS, setE, setGo, rightB, behindB]; omega, .inr fun s hs => by simp [insS] at hs; subst hs; exact h.2⟩)
theorem silEnds1 (ia : Option Addr) (ic : Nat) (p q : Option Addr) : Ends ⟨ia, ic, ins1 p q, 0, false⟩ rho1 := by
 intro n h t ht
 have h8 : n < 8 := h
 match n, h8 with
 | 0, _ => simp [ins1, silL, insA] at ht; rcases ht with rfl | rfl; exact ⟨1, rfl, show 1 < 8 by decide, by decide⟩; exact ⟨6, rfl, show 6 < 8 by decide, by decide⟩
 | 1, _ => simp [ins1, silL, insA] at ht; rcases ht with rfl | rfl; exact ⟨2, rfl, show 2 < 8 by decide, by decide⟩; exact ⟨4, rfl, show 4 < 8 by decide, by decide⟩
 | 2, _ => simp [ins1, silL, insS] at ht
 | 3, _ => simp [ins1, silL, insJ] at ht; subst ht; exact ⟨0, rfl, show 0 < 8 by decide, by decide⟩
 | 4, _ => simp [ins1, silL, insS] at ht
 | 5, _ => simp [ins1, silL, insJ] at ht; subst ht; exact ⟨0, rfl, show 0 < 8 by decide, by decide⟩
 | 6, _ => simp [ins1, silL, insS] at ht
 | 7, _ => simp [ins1, silL, insD] at ht
theorem silEnds2 (ia : Option Addr) (ic : Nat) (p q : Option Addr) : Ends ⟨ia, ic, ins2 p q, 0, false⟩ rho2 := by
 intro n h t ht
 have h8 : n < 8 := h
 match n, h8 with
 | 0, _ => simp [ins2, silL, insA] at ht; rcases ht with rfl | rfl; exact ⟨1, rfl, show 1 < 8 by decide, by decide⟩; exact ⟨3, rfl, show 3 < 8 by decide, by decide⟩
 | 1, _ => simp [ins2, silL, insS] at ht
 | 2, _ => simp [ins2, silL, insJ] at ht; subst ht; exact ⟨0, rfl, show 0 < 8 by decide, by decide⟩
 | 3, _ => simp [ins2, silL, insA] at ht; rcases ht with rfl | rfl; exact ⟨4, rfl, show 4 < 8 by decide, by decide⟩; exact ⟨6, rfl, show 6 < 8 by decide, by decide⟩
 | 4, _ => simp [ins2, silL, insS] at ht
 | 5, _ => simp [ins2, silL, insJ] at ht; subst ht; exact ⟨3, rfl, show 3 < 8 by decide, by decide⟩
 | 6, _ => simp [ins2, silL, insS] at ht
 | 7, _ => simp [ins2, silL, insD] at ht
theorem isC1 (ia : Option Addr) (ic : Nat) (p q : Option Addr) : IsC ⟨ia, ic, ins1 p q, 0, false⟩ [2, 4, 6, 7] ix1 (cW ⟨ia, ic, ins1 p q, 0, false⟩ [2, 4, 6, 7] ix1 8) := by
 refine cW.isC (silEnds1 ia ic p q) (fun n hn => ?_) (fun n h ho => ?_) (by decide) (by decide)
 ·have h8 : n < 8 := hn
  have h9 : ∀ n, n < 8 → rho1 n < 8 := by decide
  exact h9 n h8
 ·have h8 : n < 8 := h
  match n, h8 with
  | 0, _ => cases ho
  | 1, _ => cases ho
  | 2, _ => exact ⟨by decide, rfl, fun j hj => by simp [ix1] at hj⟩
  | 3, _ => cases ho
  | 4, _ => exact ⟨by decide, rfl, fun j hj => by
    have hj : j < 1 := hj; obtain rfl : j = 0 := by omega
    show (2 : Int) ≠ 4; decide⟩
  | 5, _ => cases ho
  | 6, _ => exact ⟨by decide, rfl, fun j hj => by
    have hj : j < 2 := hj; match j, hj with
    | 0, _ => show (2 : Int) ≠ 6; decide
    | 1, _ => show (4 : Int) ≠ 6; decide⟩
  | 7, _ => cases ho
theorem isC2 (ia : Option Addr) (ic : Nat) (p q : Option Addr) : IsC ⟨ia, ic, ins2 p q, 0, false⟩ [1, 4, 6, 7] ix2 (cW ⟨ia, ic, ins2 p q, 0, false⟩ [1, 4, 6, 7] ix2 8) := by
 refine cW.isC (silEnds2 ia ic p q) (fun n hn => ?_) (fun n h ho => ?_) (by decide) (by decide)
 ·have h8 : n < 8 := hn
  have h9 : ∀ n, n < 8 → rho2 n < 8 := by decide
  exact h9 n h8
 ·have h8 : n < 8 := h
  match n, h8 with
  | 0, _ => cases ho
  | 1, _ => exact ⟨by decide, rfl, fun j hj => by simp [ix2] at hj⟩
  | 2, _ => cases ho
  | 3, _ => cases ho
  | 4, _ => exact ⟨by decide, rfl, fun j hj => by
    have hj : j < 1 := hj; obtain rfl : j = 0 := by omega
    show (1 : Int) ≠ 4; decide⟩
  | 5, _ => cases ho
  | 6, _ => exact ⟨by decide, rfl, fun j hj => by
    have hj : j < 2 := hj; match j, hj with
    | 0, _ => show (1 : Int) ≠ 6; decide
    | 1, _ => show (4 : Int) ≠ 6; decide⟩
  | 7, _ => cases ho
theorem first1 (ia : Option Addr) (ic : Nat) (p q : Option Addr) : cW ⟨ia, ic, ins1 p q, 0, false⟩ [2, 4, 6, 7] ix1 8 0 = [1, 1, 1, 0] := by kernel_rfl
theorem first2 (ia : Option Addr) (ic : Nat) (p q : Option Addr) : cW ⟨ia, ic, ins2 p q, 0, false⟩ [1, 4, 6, 7] ix2 8 0 = [1, 1, 1, 0] := by kernel_rfl
theorem edges1 (ia : Option Addr) (ic : Nat) (p q a0 a1 a2 : Option Addr) (c0 c1 c2 : Nat) : ofE [⟨a0, c0, [(0, 96), (99, 255)]⟩, ⟨a1, c1, [(97, 97)]⟩, ⟨a2, c2, [(98, 98)]⟩] (rdsX p q) [2, 4, 6, 7] (cW ⟨ia, ic, ins1 p q, 0, false⟩ [2, 4, 6, 7] ix1 8) 3 = es1 := by kernel_rfl
theorem edges2 (ia : Option Addr) (ic : Nat) (p q a0 a1 a2 : Option Addr) (c0 c1 c2 : Nat) : ofE [⟨a0, c0, [(0, 96), (99, 255)]⟩, ⟨a1, c1, [(97, 97)]⟩, ⟨a2, c2, [(98, 98)]⟩] (rdsX p q) [1, 4, 6, 7] (cW ⟨ia, ic, ins2 p q, 0, false⟩ [1, 4, 6, 7] ix2 8) 3 = es2x := by kernel_rfl
theorem clsX_ok {a0 a1 a2 : Option Addr} {c0 c1 c2 : Nat} : ∀ k ∈ ([⟨a0, c0, [(0, 96), (99, 255)]⟩, ⟨a1, c1, [(97, 97)]⟩, ⟨a2, c2, [(98, 98)]⟩] : List Cl), k.sp ≠ [] ∧ k.sp.length ≤ 1000000 := by
 intro k hk
 simp only [List.mem_cons, List.not_mem_nil, or_false] at hk
 rcases hk with rfl | rfl | rfl <;> exact ⟨by simp, by simp⟩
theorem ofPre1 (ia : Option Addr) (ic : Nat) (p q : Option Addr) : OfPre ⟨ia, ic, ins1 p q, 0, false⟩ rho1 ix1 (cW ⟨ia, ic, ins1 p q, 0, false⟩ [2, 4, 6, 7] ix1 8) (rdsX p q) [2, 4, 6, 7] where
 ok := ⟨show (0 : Int) ≤ 0 ∧ (0 : Int) ≤ 9 by decide, by simp [ins1], fun i hi => by
  simp only [ins1, List.mem_cons, List.not_mem_nil, or_false] at hi
  rcases hi with rfl | rfl | rfl | rfl | rfl | rfl | rfl | rfl
  ·exact inok_A (m := 8) (by decide)
  ·exact inok_A (m := 8) (by decide)
  ·exact inok_S (m := 8) (by decide)
  ·exact inok_J (m := 8) (by decide)
  ·exact inok_S (m := 8) (by decide)
  ·exact inok_J (m := 8) (by decide)
  ·exact inok_S (m := 8) (by decide)
  ·exact inok_D (m := 8), fun h => .inl rfl⟩
 ends := silEnds1 ia ic p q
 no5 := fun i hi => by
  simp only [ins1, List.mem_cons, List.not_mem_nil, or_false] at hi
  rcases hi with rfl | rfl | rfl | rfl | rfl | rfl | rfl | rfl <;> simp [insA, insS, insJ, insD]
 erd := rfl
 eno := rfl
 few := by show 3 ≤ 63; omega
 ascii := rfl
 e12 := by rw [endsX]; decide
 isC := isC1 ia ic p q
 first := by rw [first1]; decide
 edges := fun cls h => by
  obtain ⟨a0, c0, a1, c1, a2, c2, rfl⟩ := clsX h
  refine ⟨by simp, clsX_ok, ?_⟩
  rw [show (rdsX p q).length = 3 from rfl, edges1]
  exact ⟨by decide, by decide⟩
theorem ofPre2 (ia : Option Addr) (ic : Nat) (p q : Option Addr) : OfPre ⟨ia, ic, ins2 p q, 0, false⟩ rho2 ix2 (cW ⟨ia, ic, ins2 p q, 0, false⟩ [1, 4, 6, 7] ix2 8) (rdsX p q) [1, 4, 6, 7] where
 ok := ⟨show (0 : Int) ≤ 0 ∧ (0 : Int) ≤ 9 by decide, by simp [ins2], fun i hi => by
  simp only [ins2, List.mem_cons, List.not_mem_nil, or_false] at hi
  rcases hi with rfl | rfl | rfl | rfl | rfl | rfl | rfl | rfl
  ·exact inok_A (m := 8) (by decide)
  ·exact inok_S (m := 8) (by decide)
  ·exact inok_J (m := 8) (by decide)
  ·exact inok_A (m := 8) (by decide)
  ·exact inok_S (m := 8) (by decide)
  ·exact inok_J (m := 8) (by decide)
  ·exact inok_S (m := 8) (by decide)
  ·exact inok_D (m := 8), fun h => .inl rfl⟩
 ends := silEnds2 ia ic p q
 no5 := fun i hi => by
  simp only [ins2, List.mem_cons, List.not_mem_nil, or_false] at hi
  rcases hi with rfl | rfl | rfl | rfl | rfl | rfl | rfl | rfl <;> simp [insA, insS, insJ, insD]
 erd := rfl
 eno := rfl
 few := by show 3 ≤ 63; omega
 ascii := rfl
 e12 := by rw [endsX]; decide
 isC := isC2 ia ic p q
 first := by rw [first2]; decide
 edges := fun cls h => by
  obtain ⟨a0, c0, a1, c1, a2, c2, rfl⟩ := clsX h
  refine ⟨by simp, clsX_ok, ?_⟩
  rw [show (rdsX p q).length = 3 from rfl, edges2]
  exact ⟨by decide, by decide⟩
def GrX (x : Gr) (nodes : List Int) (es : List E4) : Prop := x.nodes = nodes ∧ x.first = [1, 1, 1, 0] ∧ x.edges = es ∧ ∃ a0 c0 a1 c1 a2 c2, x.cls = [⟨a0, c0, [(0, 96), (99, 255)]⟩, ⟨a1, c1, [(97, 97)]⟩, ⟨a2, c2, [(98, 98)]⟩]
theorem grX1 {ia : Option Addr} {ic : Nat} {p q : Option Addr} {w w' : World} {e : Ending} (h : OfPost w (cW ⟨ia, ic, ins1 p q, 0, false⟩ [2, 4, 6, 7] ix1 8) (rdsX p q) [2, 4, 6, 7] e w') : Keeps [] w w' ∧ ∃ x : Gr, e = .returned (.tuple #[x.val, .int .i64 0]) ∧ GrIn w' x ∧ GrX x [2, 4, 6, 7] es1 := by
 obtain ⟨h1, x, h2, h3, h4, h5, h6, h7⟩ := h
 obtain ⟨a0, c0, a1, c1, a2, c2, h8⟩ := clsX h4
 refine ⟨h1, x, h2, h3, h5, by rw [h6, first1], ?_, a0, c0, a1, c1, a2, c2, h8⟩
 rw [h7, h8, show (rdsX p q).length = 3 from rfl, edges1]
theorem grX2 {ia : Option Addr} {ic : Nat} {p q : Option Addr} {w w' : World} {e : Ending} (h : OfPost w (cW ⟨ia, ic, ins2 p q, 0, false⟩ [1, 4, 6, 7] ix2 8) (rdsX p q) [1, 4, 6, 7] e w') : Keeps [] w w' ∧ ∃ x : Gr, e = .returned (.tuple #[x.val, .int .i64 0]) ∧ GrIn w' x ∧ GrX x [1, 4, 6, 7] es2x := by
 obtain ⟨h1, x, h2, h3, h4, h5, h6, h7⟩ := h
 obtain ⟨a0, c0, a1, c1, a2, c2, h8⟩ := clsX h4
 refine ⟨h1, x, h2, h3, h5, by rw [h6, first2], ?_, a0, c0, a1, c1, a2, c2, h8⟩
 rw [h7, h8, show (rdsX p q).length = 3 from rfl, edges2]
theorem gvalX {x : Gr} {nodes : List Int} {es : List E4} (h : GrX x nodes es) (hn : nodes.length = 4) (he : es = es1 ∨ es = es2x) : gvalE x = 0 := by
 obtain ⟨h1, h2, h3, a0, c0, a1, c1, a2, c2, h4⟩ := h
 unfold gvalE
 rw [h1, h2, h3, h4, hn]
 rcases he with rfl | rfl <;> rfl
def Ins.cells (i : Ins) : List Value := [.int .i64 i.op, .int .i64 i.x, .int .i64 i.y, .int .i64 i.n, .slice i.sa i.sp.length i.sc]
def flatI : List Ins → List Value
 | [] => []
 | i :: r => i.cells ++ flatI r
theorem flatI_get : ∀ (l : List Ins) (i : Nat) (h : i < l.length), (flatI l)[i * 5]? = some (.int .i64 l[i].op) ∧ (flatI l)[i * 5 + 1]? = some (.int .i64 l[i].x) ∧ (flatI l)[i * 5 + 2]? = some (.int .i64 l[i].y) ∧ (flatI l)[i * 5 + 3]? = some (.int .i64 l[i].n) ∧ (flatI l)[i * 5 + 4]? = some (.slice l[i].sa l[i].sp.length l[i].sc)
 | [], i, h => by simp at h
 | x :: r, 0, h => by simp [flatI, Ins.cells]
 | x :: r, i + 1, h => by
  have h' : i < r.length := by simpa using h
  have ih := flatI_get r i h'
  have e : ∀ k, (flatI (x :: r))[(i + 1) * 5 + k]? = (flatI r)[i * 5 + k]? := fun k => by
   show (x.cells ++ flatI r)[(i + 1) * 5 + k]? = _
   rw [List.getElem?_append_right (by simp [Ins.cells]; omega)]
   congr 1
   simp [Ins.cells]
   omega
  refine ⟨?_, ?_, ?_, ?_, ?_⟩
  ·exact (e 0).trans ih.1
  ·exact (e 1).trans ih.2.1
  ·exact (e 2).trans ih.2.2.1
  ·exact (e 3).trans ih.2.2.2.1
  ·exact (e 4).trans ih.2.2.2.2
theorem insIn_row {w : World} {g t : Nat} {l : List Ins} {cs : Array Value} (h : w.heap[g]? = some (.cells cs t (0, 0))) (hc : cs.toList = flatI l) : InsIn w (some ⟨g, 0, none⟩) l := fun _ => by
 refine ⟨g, 0, rfl, fun i hi => ?_⟩
 obtain ⟨h0, h1, h2, h3, h4⟩ := flatI_get l i hi
 rw [← hc] at h0 h1 h2 h3 h4
 rw [Array.getElem?_toList] at h0 h1 h2 h3 h4
 rw [Nat.zero_add]
 refine ⟨?_, ?_, ?_, ?_, ?_⟩ <;> simp only [World.cell?, h] <;> assumption
theorem dbl_postX {w w' : World} {x : Gr} {e : Ending} (hx : GrX x [2, 4, 6, 7] es1) (h : DoublePost w x 0 e w') : Keeps [] w w' ∧ ∃ a c, e = .returned (.tuple #[sv a 2 c, .bool true, .int .i64 0]) ∧ SliceAt w' 3 1 a 2 c (([97, 97] : List Int).map (Value.int .i64)) := by
 have hg := gvalX hx rfl (.inl rfl)
 obtain ⟨h1, h2, h3, a0, c0, a1, c1, a2, c2, h4⟩ := hx
 unfold DoublePost at h
 rw [if_neg (by simp [hg]), h1, if_neg (by decide), h3, h4] at h
 obtain ⟨rows, hr, hk, word, a, c, ok, he, hs, _, hc⟩ := h
 obtain rfl := rows1 hr
 rcases hc with ⟨rfl, hl, _⟩ | ⟨_, _, hn⟩
 ·obtain rfl := hl.uniq dbl1
  exact ⟨hk, a, c, he, hs⟩
 ·exact absurd dbl1.1 (hn _)
theorem brd_postX {w w' : World} {x : Gr} {e : Ending} (hx : GrX x [1, 4, 6, 7] es2x) (h : BridgePost w x 0 1 e w') : Keeps [] w w' ∧ ∃ a c, e = .returned (.tuple #[sv a 1 c, .bool true, .int .i64 0]) ∧ SliceAt w' 3 1 a 1 c (([97] : List Int).map (Value.int .i64)) := by
 have hg := gvalX hx rfl (.inr rfl)
 obtain ⟨h1, h2, h3, a0, c0, a1, c1, a2, c2, h4⟩ := hx
 unfold BridgePost at h
 rw [if_neg (by simp [hg]), h1, if_neg (by decide), if_neg (by decide), h3, h4] at h
 obtain ⟨rows, hr, hk, word, a, c, ok, he, hs, _, hc⟩ := h
 obtain rfl := rows2 hr
 rcases hc with ⟨rfl, hl, _⟩ | ⟨_, _, hn⟩
 ·obtain rfl := hl.uniq brd2
  exact ⟨hk, a, c, he, hs⟩
 ·exact absurd brd2.1 (hn _)
theorem deg_post1 {w w' : World} {x : Gr} {e : Ending} (hx : GrX x [2, 4, 6, 7] es1) (h : DegreePost w x e w') : e = .returned (.tuple #[.int .i64 (-1), .int .i64 0]) ∧ Keeps [] w w' := by
 have hg := gvalX hx rfl (.inl rfl)
 obtain ⟨h1, h2, h3, a0, c0, a1, c1, a2, c2, h4⟩ := hx
 unfold DegreePost partsX at h
 rw [if_neg (by simp [hg]), h1, h3, h2] at h
 obtain ⟨hk, rows, hr, h⟩ := h
 obtain rfl := rows1 hr
 rw [show ([15, 15, 12, 8] : List Nat).length = 4 from rfl, parts1] at h
 rcases h with ⟨_, he⟩ | ⟨hn, _⟩
 ·exact ⟨he, hk⟩
 ·exact absurd dblAt1 (hn 3 (by simp))
theorem deg_post2 {w w' : World} {x : Gr} {e : Ending} (hx : GrX x [1, 4, 6, 7] es2x) (h : DegreePost w x e w') : e = .returned (.tuple #[.int .i64 1, .int .i64 0]) ∧ Keeps [] w w' := by
 have hg := gvalX hx rfl (.inr rfl)
 obtain ⟨h1, h2, h3, a0, c0, a1, c1, a2, c2, h4⟩ := hx
 unfold DegreePost partsX at h
 rw [if_neg (by simp [hg]), h1, h3, h2] at h
 obtain ⟨hk, rows, hr, h⟩ := h
 obtain rfl := rows2 hr
 rw [show ([15, 14, 12, 8] : List Nat).length = 4 from rfl, parts2] at h
 rcases h with ⟨⟨s, hs, hd⟩, _⟩ | ⟨_, L, D, hL, he, h5, h6⟩
 ·exact absurd hd (ndbl2 s hs)
 ·obtain rfl := deg2 hL h5 h6
  exact ⟨he, hk⟩
theorem sizeIn : (Tryd.prog.info? 71).map (·.size) = some 5 := by kernel_rfl
theorem symbol_any (c : Int) (w : World) : Calls Tryd.prog 24 #[.int .i64 c] w fun e w' => ∃ g, e = .returned (.agg #[.int .i64 1, .int .i64 0, .int .i64 0, .int .i64 0, .slice (some ⟨g, 0, none⟩) 1 1]) ∧ SpIn w' (some ⟨g, 0, none⟩) [(c, c)] ∧ Keeps [] w w' := by
 go_enter Tryd.func24, Tryd.ntmps24
 go_wp2
 refine bodyPost_ret (results_cell_row rfl _ _ w.heap.size 71 #[.int .i64 1, .int .i64 0, .int .i64 0, .int .i64 0, .slice (some ⟨w.heap.size + 1, 0, none⟩) 1 1] (0, 0) _ rfl ((Keeps.a1 _ _).heap (heap_alloc_new w _) (by simp)) Tryd.underlying71 rfl sizeIn) rfl ?_
 refine ⟨w.heap.size + 1, rfl, fun _ => ⟨w.heap.size + 1, 0, rfl, fun i hi => ?_⟩, (Keeps.a1 _ _).alloc _⟩
 have hi0 : i = 0 := by simpa using hi
 subst hi0
 have h := heap_alloc2_new w (.cells #[.int .i64 1, .int .i64 0, .int .i64 0, .int .i64 0, .slice (some ⟨w.heap.size + 1, 0, none⟩) 1 1] 71) (.cells #[.int .i64 c, .int .i64 c] 50)
 generalize ((w.alloc (.cells #[.int .i64 1, .int .i64 0, .int .i64 0, .int .i64 0, .slice (some ⟨w.heap.size + 1, 0, none⟩) 1 1] 71)).alloc (.cells #[.int .i64 c, .int .i64 c] 50)) = W at h ⊢
 simp [World.cell?, h]
theorem lives_any (w : World) (hT : TabW w) : Calls Tryd.prog 8 #[] w fun e w' => e = .returned (.bool true) ∧ Keeps [] w w' := by
 have HT := Lib.hid hT
 have HSY := Lib.hid (fun c W => symbol_any c W)
 clear hT
 go_enter Tryd.func8, Tryd.ntmps8
 go_wp2_with fail
 refine Calls.mono (HSY.out 97 w) ?_
 rintro e w1 ⟨ga, rfl, hsa, hk1⟩
 have HSA := Lib.hid hsa
 have HK1 := Lib.hid hk1
 clear hsa hk1
 obtain ⟨wa, hwa⟩ : ∃ wa, wa = w1.alloc (.cells #[.int .i64 1, .int .i64 0, .int .i64 0, .int .i64 0, .slice (some ⟨ga, 0, none⟩) 1 1] 71) := ⟨_, rfl⟩
 obtain ⟨S1, hS1⟩ : ∃ S1, S1 = w1.heap.size := ⟨_, rfl⟩
 have hka : Keeps [] w1 wa := by rw [hwa]; exact Keeps.a1 _ _
 have hra : wa.heap[S1]? = some (.cells #[.int .i64 1, .int .i64 0, .int .i64 0, .int .i64 0, .slice (some ⟨ga, 0, none⟩) 1 1] 71 (0, 0)) := by rw [hwa, hS1]; exact heap_alloc_new _ _
 have HWA := Lib.hid hwa
 have HS1 := Lib.hid hS1
 have HRA := Lib.hid hra
 have HKA := Lib.hid (HK1.out.trans hka)
 have HSA1 := Lib.hid (HSA.out.keep hka)
 clear hwa hS1 hka hra
 go_upto_region 2 with fail
 rw [← HWA.out, ← HS1.out]
 go_wp2_with fail
 refine Calls.mono (HSY.out 98 wa) ?_
 rintro e w2 ⟨gb, rfl, hsb, hk2⟩
 obtain ⟨wb, hwb⟩ : ∃ wb, wb = w2.alloc (.cells #[.int .i64 1, .int .i64 0, .int .i64 0, .int .i64 0, .slice (some ⟨gb, 0, none⟩) 1 1] 71) := ⟨_, rfl⟩
 obtain ⟨S2, hS2⟩ : ∃ S2, S2 = w2.heap.size := ⟨_, rfl⟩
 have hkb : Keeps [] w2 wb := by rw [hwb]; exact Keeps.a1 _ _
 have hrb : wb.heap[S2]? = some (.cells #[.int .i64 1, .int .i64 0, .int .i64 0, .int .i64 0, .slice (some ⟨gb, 0, none⟩) 1 1] 71 (0, 0)) := by rw [hwb, hS2]; exact heap_alloc_new _ _
 have hra := (hk2.trans hkb).heap HRA.out (by simp)
 have a0 : wb.cell? ⟨S1, 0, none⟩ = some (.int .i64 1) := by simp [World.cell?, hra]
 have a1 : wb.cell? ⟨S1, 1, none⟩ = some (.int .i64 0) := by simp [World.cell?, hra]
 have a2 : wb.cell? ⟨S1, 2, none⟩ = some (.int .i64 0) := by simp [World.cell?, hra]
 have a3 : wb.cell? ⟨S1, 3, none⟩ = some (.int .i64 0) := by simp [World.cell?, hra]
 have a4 : wb.cell? ⟨S1, 4, none⟩ = some (.slice (some ⟨ga, 0, none⟩) 1 1) := by simp [World.cell?, hra]
 have b0 : wb.cell? ⟨S2, 0, none⟩ = some (.int .i64 1) := by simp [World.cell?, hrb]
 have b1 : wb.cell? ⟨S2, 1, none⟩ = some (.int .i64 0) := by simp [World.cell?, hrb]
 have b2 : wb.cell? ⟨S2, 2, none⟩ = some (.int .i64 0) := by simp [World.cell?, hrb]
 have b3 : wb.cell? ⟨S2, 3, none⟩ = some (.int .i64 0) := by simp [World.cell?, hrb]
 have b4 : wb.cell? ⟨S2, 4, none⟩ = some (.slice (some ⟨gb, 0, none⟩) 1 1) := by simp [World.cell?, hrb]
 have HWB := Lib.hid hwb
 have HS2 := Lib.hid hS2
 have HRA2 := Lib.hid hra
 have HRB := Lib.hid hrb
 have HKB := Lib.hid ((HKA.out.trans hk2).trans hkb)
 have HSA2 := Lib.hid (HSA1.out.keep (hk2.trans hkb))
 have HSB := Lib.hid (hsb.keep hkb)
 clear hwb hS2 hkb hrb hra hsb hk2
 go_upto_region 3 with fail
 rw [← HWB.out, ← HS2.out]
 go_upto_region 4 with fail
 obtain ⟨wc, hwc⟩ : ∃ wc, wc = (wb.alloc (.cells #[.int .i64 2, .int .i64 1, .int .i64 6, .int .i64 0, .slice none 0 0, .int .i64 2, .int .i64 2, .int .i64 4, .int .i64 0, .slice none 0 0, .int .i64 1, .int .i64 0, .int .i64 0, .int .i64 0, .slice (some ⟨ga, 0, none⟩) 1 1, .int .i64 3, .int .i64 0, .int .i64 0, .int .i64 0, .slice none 0 0, .int .i64 1, .int .i64 0, .int .i64 0, .int .i64 0, .slice (some ⟨ga, 0, none⟩) 1 1, .int .i64 3, .int .i64 0, .int .i64 0, .int .i64 0, .slice none 0 0, .int .i64 1, .int .i64 0, .int .i64 0, .int .i64 0, .slice (some ⟨gb, 0, none⟩) 1 1, .int .i64 0, .int .i64 0, .int .i64 0, .int .i64 0, .slice none 0 0] 71)).alloc (.cells #[.slice (some ⟨wb.heap.size, 0, none⟩) 8 8, .int .i64 0, .bool false] 75) := ⟨_, rfl⟩
 obtain ⟨G1, hG1⟩ : ∃ G1, G1 = wb.heap.size := ⟨_, rfl⟩
 have hkc : Keeps [] wb wc := by rw [hwc]; exact (Keeps.a1 _ _).alloc _
 have hi1 : wc.heap[G1]? = some (.cells #[.int .i64 2, .int .i64 1, .int .i64 6, .int .i64 0, .slice none 0 0, .int .i64 2, .int .i64 2, .int .i64 4, .int .i64 0, .slice none 0 0, .int .i64 1, .int .i64 0, .int .i64 0, .int .i64 0, .slice (some ⟨ga, 0, none⟩) 1 1, .int .i64 3, .int .i64 0, .int .i64 0, .int .i64 0, .slice none 0 0, .int .i64 1, .int .i64 0, .int .i64 0, .int .i64 0, .slice (some ⟨ga, 0, none⟩) 1 1, .int .i64 3, .int .i64 0, .int .i64 0, .int .i64 0, .slice none 0 0, .int .i64 1, .int .i64 0, .int .i64 0, .int .i64 0, .slice (some ⟨gb, 0, none⟩) 1 1, .int .i64 0, .int .i64 0, .int .i64 0, .int .i64 0, .slice none 0 0] 71 (0, 0)) := by rw [hwc, hG1]; exact (Keeps.a1 _ _).heap (heap_alloc_new wb _) (by simp)
 have hp1 : wc.heap[G1 + 1]? = some (.cells #[.slice (some ⟨G1, 0, none⟩) 8 8, .int .i64 0, .bool false] 75 (0, 0)) := by rw [hwc, hG1]; exact heap_alloc2_new wb _ _
 have HWC := Lib.hid hwc
 have HG1 := Lib.hid hG1
 have HI1 := Lib.hid hi1
 have HP1 := Lib.hid hp1
 have HKC := Lib.hid hkc
 rw [← HWC.out, ← HG1.out]
 have a0 := hkc.cell a0 (by simp)
 have a1 := hkc.cell a1 (by simp)
 have a2 := hkc.cell a2 (by simp)
 have a3 := hkc.cell a3 (by simp)
 have a4 := hkc.cell a4 (by simp)
 have b0 := hkc.cell b0 (by simp)
 have b1 := hkc.cell b1 (by simp)
 have b2 := hkc.cell b2 (by simp)
 have b3 := hkc.cell b3 (by simp)
 have b4 := hkc.cell b4 (by simp)
 clear hwc hG1 hkc hi1 hp1
 go_upto_region 5 with fail
 obtain ⟨wd, hwd⟩ : ∃ wd, wd = (wc.alloc (.cells #[.int .i64 2, .int .i64 1, .int .i64 3, .int .i64 0, .slice none 0 0, .int .i64 1, .int .i64 0, .int .i64 0, .int .i64 0, .slice (some ⟨ga, 0, none⟩) 1 1, .int .i64 3, .int .i64 0, .int .i64 0, .int .i64 0, .slice none 0 0, .int .i64 2, .int .i64 4, .int .i64 6, .int .i64 0, .slice none 0 0, .int .i64 1, .int .i64 0, .int .i64 0, .int .i64 0, .slice (some ⟨ga, 0, none⟩) 1 1, .int .i64 3, .int .i64 3, .int .i64 0, .int .i64 0, .slice none 0 0, .int .i64 1, .int .i64 0, .int .i64 0, .int .i64 0, .slice (some ⟨gb, 0, none⟩) 1 1, .int .i64 0, .int .i64 0, .int .i64 0, .int .i64 0, .slice none 0 0] 71)).alloc (.cells #[.slice (some ⟨wc.heap.size, 0, none⟩) 8 8, .int .i64 0, .bool false] 75) := ⟨_, rfl⟩
 obtain ⟨G2, hG2⟩ : ∃ G2, G2 = wc.heap.size := ⟨_, rfl⟩
 have hkd : Keeps [] wc wd := by rw [hwd]; exact (Keeps.a1 _ _).alloc _
 have hi2 : wd.heap[G2]? = some (.cells #[.int .i64 2, .int .i64 1, .int .i64 3, .int .i64 0, .slice none 0 0, .int .i64 1, .int .i64 0, .int .i64 0, .int .i64 0, .slice (some ⟨ga, 0, none⟩) 1 1, .int .i64 3, .int .i64 0, .int .i64 0, .int .i64 0, .slice none 0 0, .int .i64 2, .int .i64 4, .int .i64 6, .int .i64 0, .slice none 0 0, .int .i64 1, .int .i64 0, .int .i64 0, .int .i64 0, .slice (some ⟨ga, 0, none⟩) 1 1, .int .i64 3, .int .i64 3, .int .i64 0, .int .i64 0, .slice none 0 0, .int .i64 1, .int .i64 0, .int .i64 0, .int .i64 0, .slice (some ⟨gb, 0, none⟩) 1 1, .int .i64 0, .int .i64 0, .int .i64 0, .int .i64 0, .slice none 0 0] 71 (0, 0)) := by rw [hwd, hG2]; exact (Keeps.a1 _ _).heap (heap_alloc_new wc _) (by simp)
 have hp2 : wd.heap[G2 + 1]? = some (.cells #[.slice (some ⟨G2, 0, none⟩) 8 8, .int .i64 0, .bool false] 75 (0, 0)) := by rw [hwd, hG2]; exact heap_alloc2_new wc _ _
 have hi1 := hkd.heap HI1.out (by simp)
 have hp1 := hkd.heap HP1.out (by simp)
 have HSAD := Lib.hid (HSA2.out.keep (HKC.out.trans hkd))
 have HSBD := Lib.hid (HSB.out.keep (HKC.out.trans hkd))
 have HSPI := Lib.hid (show ∀ l : List Ins, (∀ i ∈ l, i = insS (some ⟨ga, 0, none⟩) 97 ∨ i = insS (some ⟨gb, 0, none⟩) 98 ∨ (i.sp = [])) → ∀ i ∈ l, SpIn wd i.sa i.sp ∧ i.sp.length ≤ 1000000000000 from fun l hl i hi => by
  rcases hl i hi with rfl | rfl | h
  ·exact ⟨HSAD.out, by simp [insS]⟩
  ·exact ⟨HSBD.out, by simp [insS]⟩
  ·rw [h]; exact ⟨fun h => by simp at h, by simp⟩)
 have HPG1 := Lib.hid (show PgIn wd ⟨some ⟨G1, 0, none⟩, 8, ins1 (some ⟨ga, 0, none⟩) (some ⟨gb, 0, none⟩), 0, false⟩ from ⟨insIn_row hi1 rfl, HSPI.out _ (fun i hi => by
  simp only [ins1, List.mem_cons, List.not_mem_nil, or_false] at hi
  rcases hi with rfl | rfl | rfl | rfl | rfl | rfl | rfl | rfl <;> simp [insA, insJ, insD]), show 8 ≤ 8192 by omega⟩)
 have HPG2 := Lib.hid (show PgIn wd ⟨some ⟨G2, 0, none⟩, 8, ins2 (some ⟨ga, 0, none⟩) (some ⟨gb, 0, none⟩), 0, false⟩ from ⟨insIn_row hi2 rfl, HSPI.out _ (fun i hi => by
  simp only [ins2, List.mem_cons, List.not_mem_nil, or_false] at hi
  rcases hi with rfl | rfl | rfl | rfl | rfl | rfl | rfl | rfl <;> simp [insA, insJ, insD]), show 8 ≤ 8192 by omega⟩)
 have HWD := Lib.hid hwd
 have HG2 := Lib.hid hG2
 have HKD := Lib.hid ((HKB.out.trans HKC.out).trans hkd)
 rw [← HWD.out, ← HG2.out]
 have p0 : wd.cell? ⟨G1 + 1, 0, none⟩ = some (.slice (some ⟨G1, 0, none⟩) 8 8) := by simp [World.cell?, hp1]
 have p1 : wd.cell? ⟨G1 + 1, 1, none⟩ = some (.int .i64 0) := by simp [World.cell?, hp1]
 have p2 : wd.cell? ⟨G1 + 1, 2, none⟩ = some (.bool false) := by simp [World.cell?, hp1]
 have q0 : wd.cell? ⟨G2 + 1, 0, none⟩ = some (.slice (some ⟨G2, 0, none⟩) 8 8) := by simp [World.cell?, hp2]
 have q1 : wd.cell? ⟨G2 + 1, 1, none⟩ = some (.int .i64 0) := by simp [World.cell?, hp2]
 have q2 : wd.cell? ⟨G2 + 1, 2, none⟩ = some (.bool false) := by simp [World.cell?, hp2]
 clear hwd hG2 hkd hi1 hp1 hi2 hp2 a0 a1 a2 a3 a4 b0 b1 b2 b3 b4
 have HOF1 := Lib.hid (show ∀ W, Keeps [] wd W → Calls Tryd.prog 25 #[.agg #[.slice (some ⟨G1, 0, none⟩) 8 8, .int .i64 0, .bool false]] W fun e w' => Keeps [] W w' ∧ ∃ x : Gr, e = .returned (.tuple #[x.val, .int .i64 0]) ∧ GrIn w' x ∧ GrX x [2, 4, 6, 7] es1 from fun W hk => (Of_any _ _ _ _ _ _ W (HPG1.out.keep hk) (ofPre1 (some ⟨G1, 0, none⟩) 8 (some ⟨ga, 0, none⟩) (some ⟨gb, 0, none⟩))).mono fun e w' h => grX1 h)
 have HOF2 := Lib.hid (show ∀ W, Keeps [] wd W → Calls Tryd.prog 25 #[.agg #[.slice (some ⟨G2, 0, none⟩) 8 8, .int .i64 0, .bool false]] W fun e w' => Keeps [] W w' ∧ ∃ x : Gr, e = .returned (.tuple #[x.val, .int .i64 0]) ∧ GrIn w' x ∧ GrX x [1, 4, 6, 7] es2x from fun W hk => (Of_any _ _ _ _ _ _ W (HPG2.out.keep hk) (ofPre2 (some ⟨G2, 0, none⟩) 8 (some ⟨ga, 0, none⟩) (some ⟨gb, 0, none⟩))).mono fun e w' h => grX2 h)
 go_wp2_with fail
 refine Calls.mono (HOF1.out wd (Keeps.refl _ _)) ?_
 rintro e w5 ⟨hk5, x, rfl, hx5, hgx⟩
 have q0 := hk5.cell q0 (by simp)
 have q1 := hk5.cell q1 (by simp)
 have q2 := hk5.cell q2 (by simp)
 have HX5 := Lib.hid hx5
 have HGX := Lib.hid hgx
 have HK5 := Lib.hid hk5
 simp only [Gr.val]
 clear hk5 hx5 hgx p0 p1 p2
 go_upto_region 6 with fail
 obtain ⟨we, hwe⟩ : ∃ we, we = w5.alloc (.cells #[.slice x.ca x.cls.length x.cc, .slice x.na x.nodes.length x.nc, .slice x.fa x.first.length x.fc, .slice x.ea x.edges.length x.ec] 26) := ⟨_, rfl⟩
 obtain ⟨X1, hX1⟩ : ∃ X1, X1 = w5.heap.size := ⟨_, rfl⟩
 have hke : Keeps [] w5 we := by rw [hwe]; exact Keeps.a1 _ _
 have hxr : we.heap[X1]? = some (.cells x.row.toArray 26 (0, 0)) := by rw [hwe, hX1]; exact heap_alloc_new _ _
 have q0 := hke.cell q0 (by simp)
 have q1 := hke.cell q1 (by simp)
 have q2 := hke.cell q2 (by simp)
 have HXR := Lib.hid hxr
 have HXE := Lib.hid (HX5.out.keep hke)
 have HKE := Lib.hid ((HKD.out.trans HK5.out).trans hke)
 have HKDE := Lib.hid (HK5.out.trans hke)
 rw [← hwe, ← hX1]
 clear hwe hX1 hke hxr
 go_wp2_with fail
 refine Calls.mono (HOF2.out we HKDE.out) ?_
 rintro e w6 ⟨hk6, y, rfl, hy6, hgy⟩
 have HY6 := Lib.hid hy6
 have HGY := Lib.hid hgy
 have HXR6 := Lib.hid (hk6.heap HXR.out (by simp))
 have HX6 := Lib.hid (HXE.out.keep hk6)
 have HK6 := Lib.hid (HKE.out.trans hk6)
 simp only [Gr.val]
 clear hk6 hy6 hgy q0 q1 q2
 go_upto_region 7 with fail
 obtain ⟨wf, hwf⟩ : ∃ wf, wf = w6.alloc (.cells #[.slice y.ca y.cls.length y.cc, .slice y.na y.nodes.length y.nc, .slice y.fa y.first.length y.fc, .slice y.ea y.edges.length y.ec] 26) := ⟨_, rfl⟩
 obtain ⟨Y1, hY1⟩ : ∃ Y1, Y1 = w6.heap.size := ⟨_, rfl⟩
 have hkf : Keeps [] w6 wf := by rw [hwf]; exact Keeps.a1 _ _
 have hyr : wf.heap[Y1]? = some (.cells y.row.toArray 26 (0, 0)) := by rw [hwf, hY1]; exact heap_alloc_new _ _
 have HYR := Lib.hid hyr
 have HXRF := Lib.hid (hkf.heap HXR6.out (by simp))
 have HXF := Lib.hid (HX6.out.keep hkf)
 have HYF := Lib.hid (HY6.out.keep hkf)
 have HKF := Lib.hid (HK6.out.trans hkf)
 rw [← hwf, ← hY1]
 clear hwf hY1 hkf hyr
 obtain ⟨x0, x1, x2, x3⟩ := row_cells4 HXRF.out
 have HFX := Lib.hid (show x.first = [1, 1, 1, 0] from HGX.out.2.1)
 have hsm := same_any x.fa (some ⟨wf.heap.size, 0, none⟩) x.fc 4 x.first [1, 1, 1, 0] (wf.alloc (.cells #[.int .i64 1, .int .i64 1, .int .i64 1, .int .i64 0] 3)) (HXF.out.first.keep (Keeps.a1 _ _)) ((Ints.alloc 3 wf [1, 1, 1, 0]).to_in) HXF.out.lf (by simp)
 rw [show decide (x.first = [1, 1, 1, 0]) = true by rw [HFX.out]; rfl] at hsm
 have HSM := Lib.hid (show Calls Tryd.prog 26 #[.slice x.fa x.first.length x.fc, .slice (some ⟨wf.heap.size, 0, none⟩) 4 4] _ _ from hsm)
 clear hsm
 go_wp2_with fail
 refine Calls.mono HSM.out ?_
 rintro e w7 ⟨rfl, n7, hw7⟩
 have hk7 : Keeps [] wf w7 := by rw [hw7]; exact (Keeps.a1 wf _).drewN n7
 have x0 := hk7.cell x0 (by simp)
 have x1 := hk7.cell x1 (by simp)
 have x2 := hk7.cell x2 (by simp)
 have x3 := hk7.cell x3 (by simp)
 have HDB := (Double_any search_ok x 0 w7 (HXF.out.keep hk7)).mono fun e w' h => dbl_postX HGX.out h
 simp only [Gr.val] at HDB
 have HDB := Lib.hid HDB
 have HK7 := Lib.hid hk7
 clear hk7 hw7
 go_wp2_with fail
 refine Calls.mono HDB.out ?_
 rintro e w8 ⟨hk8, ua, uc, rfl, hu8⟩
 simp only [sv]
 have HU8 := Lib.hid hu8
 have HK8 := Lib.hid (HK7.out.trans hk8)
 obtain ⟨y0, y1, y2, y3⟩ := row_cells4 (HK8.out.heap HYR.out (by simp))
 have x0 := hk8.cell x0 (by simp)
 have x1 := hk8.cell x1 (by simp)
 have x2 := hk8.cell x2 (by simp)
 have x3 := hk8.cell x3 (by simp)
 have HBR := (Bridge_any y 0 1 w8 (HYF.out.keep HK8.out)).mono fun e w' h => brd_postX HGY.out h
 simp only [Gr.val] at HBR
 have HBR := Lib.hid HBR
 clear hk8 hu8
 go_wp2_with fail
 refine Calls.mono HBR.out ?_
 rintro e w9 ⟨hk9, va, vc, rfl, hv9⟩
 simp only [sv]
 have HV9 := Lib.hid hv9
 have HU9 := Lib.hid (HU8.out.keep hk9 (by simp))
 have HK9 := Lib.hid (HK8.out.trans hk9)
 have x0 := hk9.cell x0 (by simp)
 have x1 := hk9.cell x1 (by simp)
 have x2 := hk9.cell x2 (by simp)
 have x3 := hk9.cell x3 (by simp)
 have y0 := hk9.cell y0 (by simp)
 have y1 := hk9.cell y1 (by simp)
 have y2 := hk9.cell y2 (by simp)
 have y3 := hk9.cell y3 (by simp)
 have HD1 := (Degree_any x w9 (HXF.out.keep HK9.out) (HT.out.keep (HKF.out.trans HK9.out) (by simp))).mono fun e w' h => deg_post1 HGX.out h
 simp only [Gr.val] at HD1
 have HD1 := Lib.hid HD1
 clear hk9 hv9
 go_wp2_with fail
 refine Calls.mono HD1.out ?_
 rintro e w10 ⟨rfl, hk10⟩
 have HV10 := Lib.hid (HV9.out.keep hk10 (by simp))
 have HU10 := Lib.hid (HU9.out.keep hk10 (by simp))
 have HK10 := Lib.hid (HK9.out.trans hk10)
 have y0 := hk10.cell y0 (by simp)
 have y1 := hk10.cell y1 (by simp)
 have y2 := hk10.cell y2 (by simp)
 have y3 := hk10.cell y3 (by simp)
 have HD2 := (Degree_any y w10 (HYF.out.keep HK10.out) (HT.out.keep (HKF.out.trans HK10.out) (by simp))).mono fun e w' h => deg_post2 HGY.out h
 simp only [Gr.val] at HD2
 have HD2 := Lib.hid HD2
 clear hk10 x0 x1 x2 x3
 go_wp2_with fail
 refine Calls.mono HD2.out ?_
 rintro e w11 ⟨rfl, hk11⟩
 have HV11 := Lib.hid (HV10.out.keep hk11 (by simp))
 have HU11 := Lib.hid (HU10.out.keep hk11 (by simp))
 have HK11 := Lib.hid (HK10.out.trans hk11)
 clear hk11 y0 y1 y2 y3
 have hsm := same_any (ua.map fun g => ⟨g, 0, none⟩) (some ⟨w11.heap.size, 0, none⟩) uc 2 [97, 97] [97, 97] (w11.alloc (.cells #[.int .i64 97, .int .i64 97] 3)) ((HU11.out.alloc _).to_in) ((Ints.alloc 3 w11 [97, 97]).to_in) (by simp) (by simp)
 rw [decide_eq_true rfl] at hsm
 have HSM1 := Lib.hid (show Calls Tryd.prog 26 #[.slice (ua.map fun g => ⟨g, 0, none⟩) 2 uc, .slice (some ⟨w11.heap.size, 0, none⟩) 2 2] _ _ from hsm)
 clear hsm
 go_wp2_with fail
 refine Calls.mono HSM1.out ?_
 rintro e w12 ⟨rfl, n12, hw12⟩
 have hk12 : Keeps [] w11 w12 := by rw [hw12]; exact (Keeps.a1 w11 _).drewN n12
 have hsm := same_any (va.map fun g => ⟨g, 0, none⟩) (some ⟨w12.heap.size, 0, none⟩) vc 1 [97] [97] (w12.alloc (.cells #[.int .i64 97] 3)) (((HV11.out.keep hk12 (by simp)).alloc _).to_in) ((Ints.alloc 3 w12 [97]).to_in) (by simp) (by simp)
 rw [decide_eq_true rfl] at hsm
 have HSM2 := Lib.hid (show Calls Tryd.prog 26 #[.slice (va.map fun g => ⟨g, 0, none⟩) 1 vc, .slice (some ⟨w12.heap.size, 0, none⟩) 1 1] _ _ from hsm)
 have HK12 := Lib.hid (HK11.out.trans hk12)
 clear hsm hk12 hw12
 go_wp2_with fail
 refine Calls.mono HSM2.out ?_
 rintro e w13 ⟨rfl, n13, hw13⟩
 have HK13 := Lib.hid (show Keeps [] w w13 from (HKF.out.trans HK12.out).trans (by rw [hw13]; exact (Keeps.a1 w12 _).drewN n13))
 clear hw13
 go_wp2
 go_ret
 exact ⟨rfl, HK13.out⟩
end Go.Proofs.YtphnbmdcgcchaaaDoor
