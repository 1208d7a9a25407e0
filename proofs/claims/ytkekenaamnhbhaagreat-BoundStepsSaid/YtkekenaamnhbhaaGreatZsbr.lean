/- Part 44 of the proof. No condition: every lemma says its own. -/
import Derived.Test.YtkekenaamnhbhaaGreatZsbq
import Derived.Test.YtkekenaamnhbhaaGreatZsar
import Derived.Test.YtkekenaamnhbhaaGreatZsbp
namespace Go.Proofs.YtkekenaamnhbhaaGreat
open Go.RowKit
open Go.RowKit Go.BigFrame
set_option maxRecDepth 100000
set_option maxHeartbeats 16000000
def binsA (x y : Int) (s : Option Addr × Nat) : Ins := ⟨2, x, y, 0, s.1, s.2, []⟩
def binsJ (x : Int) (s : Option Addr × Nat) : Ins := ⟨3, x, 0, 0, s.1, s.2, []⟩
def binsS (s : Option Addr × Nat) (c : Int) : Ins := ⟨1, 0, 0, 0, s.1, s.2, [(c, c)]⟩
def binsD (s : Option Addr × Nat) : Ins := ⟨0, 0, 0, 0, s.1, s.2, []⟩
theorem bok_A {m : Nat} {x y : Int} {s : Option Addr × Nat} (h : (0 ≤ x ∧ x < m) ∧ 0 ≤ y ∧ y < m) : InOK m 0 false (binsA x y s) := .inr (.inr (.inl ⟨rfl, h.1, h.2, rfl, rfl⟩))
theorem bok_J {m : Nat} {x : Int} {s : Option Addr × Nat} (h : 0 ≤ x ∧ x < m) : InOK m 0 false (binsJ x s) := .inr (.inr (.inr (.inl ⟨rfl, h, rfl, rfl, rfl⟩)))
theorem bok_D {m : Nat} {s : Option Addr × Nat} : InOK m 0 false (binsD s) := .inl ⟨rfl, rfl, rfl, rfl, rfl⟩
theorem bok_S {m : Nat} {s : Option Addr × Nat} {c : Int} (h : 0 ≤ c ∧ c ≤ 255) : InOK m 0 false (binsS s c) := .inr (.inl ⟨rfl, rfl, rfl, rfl, by simp [binsS, setE, setGo, rightB, behindB]; omega, .inr fun z hs => by simp [binsS] at hs; subst hs; exact h.2⟩)
theorem bcls_ok {a0 a1 a2 : Option Addr} {c0 c1 c2 : Nat} : ∀ k ∈ ([⟨a0, c0, [(0, 96), (99, 255)]⟩, ⟨a1, c1, [(97, 97)]⟩, ⟨a2, c2, [(98, 98)]⟩] : List Cl), k.sp ≠ [] ∧ k.sp.length ≤ 1000000 := by
 intro k hk
 simp only [List.mem_cons, List.not_mem_nil, or_false] at hk
 rcases hk with rfl | rfl | rfl <;> exact ⟨by simp, by simp⟩
def BGr (x : Gr) (nodes first : List Int) (es : List E4) : Prop := x.nodes = nodes ∧ x.first = first ∧ x.edges = es ∧ ∃ a0 c0 a1 c1 a2 c2, x.cls = [⟨a0, c0, [(0, 96), (99, 255)]⟩, ⟨a1, c1, [(97, 97)]⟩, ⟨a2, c2, [(98, 98)]⟩]
set_option linter.unusedVariables false in
def bins1 (σ : Nat → Option Addr × Nat) : List Ins := [binsA 1 3 (σ 0), binsS (σ 1) 97, binsJ 0 (σ 2), binsA 4 6 (σ 3), binsS (σ 4) 97, binsJ 3 (σ 5), binsS (σ 6) 98, binsD (σ 7)]
set_option linter.unusedVariables false in
def brds1 (σ : Nat → Option Addr × Nat) : List Cl := [⟨(σ 1).1, (σ 1).2, [(97, 97)]⟩, ⟨(σ 4).1, (σ 4).2, [(97, 97)]⟩, ⟨(σ 6).1, (σ 6).2, [(98, 98)]⟩]
def brho1 (n : Nat) : Nat := [2, 0, 3, 1, 0, 2, 0, 0].getD n 0
def bix1 (n : Nat) : Nat := [0, 0, 0, 0, 1, 0, 2, 3].getD n 0
theorem bends1 (σ : Nat → Option Addr × Nat) : endsK 255 (brds1 σ) (brds1 σ).length = [(97, 0, 0), (98, 0, 0), (97, 1, 0), (98, 1, 0), (98, 2, 0), (99, 2, 0)] := rfl
theorem bsplit1 : SplitAt 255 [(97, 0, 0), (98, 0, 0), (97, 1, 0), (98, 1, 0), (98, 2, 0), (99, 2, 0)] 4 := ⟨by decide +kernel, by decide +kernel⟩
theorem bout1 : (splitN 255 [(97, 0, 0), (98, 0, 0), (97, 1, 0), (98, 1, 0), (98, 2, 0), (99, 2, 0)] 4).out = [[(0, 96), (99, 255)], [(97, 97)], [(98, 98)]] := by decide +kernel
theorem bcls1 {σ : Nat → Option Addr × Nat} {cls : List Cl} (h : ∃ j, SplitAt 255 (endsK 255 (brds1 σ) (brds1 σ).length) j ∧ cls.map Cl.sp = (splitN 255 (endsK 255 (brds1 σ) (brds1 σ).length) j).out) :
  ∃ a0 c0 a1 c1 a2 c2, cls = [⟨a0, c0, [(0, 96), (99, 255)]⟩, ⟨a1, c1, [(97, 97)]⟩, ⟨a2, c2, [(98, 98)]⟩] := by
 obtain ⟨j, h1, h2⟩ := h
 rw [bends1] at h1 h2
 obtain rfl := h1.uniq bsplit1
 rw [bout1] at h2
 match cls, h2 with
 | [⟨a0, c0, s0⟩, ⟨a1, c1, s1⟩, ⟨a2, c2, s2⟩], h2 =>
  simp only [List.map_cons, List.map_nil, List.cons.injEq, and_true] at h2
  obtain ⟨rfl, rfl, rfl⟩ := h2
  exact ⟨a0, c0, a1, c1, a2, c2, rfl⟩
theorem bsil1 (ia : Option Addr) (ic : Nat) (σ : Nat → Option Addr × Nat) : Ends ⟨ia, ic, bins1 σ, 0, false⟩ brho1 := by
 intro n h t ht
 have h8 : n < 8 := h
 match n, h8 with
 | 0, _ => simp [bins1, silL, binsA] at ht; rcases ht with rfl | rfl; exact ⟨1, rfl, show 1 < 8 by decide, by decide⟩; exact ⟨3, rfl, show 3 < 8 by decide, by decide⟩
 | 1, _ => simp [bins1, silL, binsS] at ht
 | 2, _ => simp [bins1, silL, binsJ] at ht; subst ht; exact ⟨0, rfl, show 0 < 8 by decide, by decide⟩
 | 3, _ => simp [bins1, silL, binsA] at ht; rcases ht with rfl | rfl; exact ⟨4, rfl, show 4 < 8 by decide, by decide⟩; exact ⟨6, rfl, show 6 < 8 by decide, by decide⟩
 | 4, _ => simp [bins1, silL, binsS] at ht
 | 5, _ => simp [bins1, silL, binsJ] at ht; subst ht; exact ⟨3, rfl, show 3 < 8 by decide, by decide⟩
 | 6, _ => simp [bins1, silL, binsS] at ht
 | 7, _ => simp [bins1, silL, binsD] at ht
theorem bisC1 (ia : Option Addr) (ic : Nat) (σ : Nat → Option Addr × Nat) : IsC ⟨ia, ic, bins1 σ, 0, false⟩ [1, 4, 6, 7] bix1 (cW ⟨ia, ic, bins1 σ, 0, false⟩ [1, 4, 6, 7] bix1 8) := by
 refine cW.isC (bsil1 ia ic σ) (fun n hn => ?_) (fun n h ho => ?_) (by decide) (by decide)
 ·have h8 : n < 8 := hn
  have h9 : ∀ n, n < 8 → brho1 n < 8 := by decide
  exact h9 n h8
 ·have h8 : n < 8 := h
  match n, h8 with
  | 0, _ => cases ho
  | 1, _ => exact ⟨by decide, rfl, fun j hj => by simp [bix1] at hj⟩
  | 2, _ => cases ho
  | 3, _ => cases ho
  | 4, _ =>
   exact ⟨by decide, rfl, fun j hj => by
    have hj : j < 1 := hj
    obtain rfl : j = 0 := by omega
    show (1 : Int) ≠ 4; decide⟩
  | 5, _ => cases ho
  | 6, _ =>
   exact ⟨by decide, rfl, fun j hj => by
    have hj : j < 2 := hj
    match j, hj with
    | 0, _ => show (1 : Int) ≠ 6; decide
    | 1, _ => show (4 : Int) ≠ 6; decide⟩
  | 7, _ => cases ho
theorem bfirst1 (ia : Option Addr) (ic : Nat) (σ : Nat → Option Addr × Nat) : cW ⟨ia, ic, bins1 σ, 0, false⟩ [1, 4, 6, 7] bix1 8 0 = [1, 1, 1, 0] := by kernel_rfl
def bes1 : List E4 := [⟨0, 0, 1, 1⟩, ⟨0, 1, 1, 1⟩, ⟨0, 2, 1, 1⟩, ⟨1, 1, 1, 1⟩, ⟨1, 2, 1, 1⟩, ⟨2, 3, 2, 1⟩]
theorem bedges1 (ia : Option Addr) (ic : Nat) (σ : Nat → Option Addr × Nat) (a0 a1 a2 : Option Addr) (c0 c1 c2 : Nat) : ofE [⟨a0, c0, [(0, 96), (99, 255)]⟩, ⟨a1, c1, [(97, 97)]⟩, ⟨a2, c2, [(98, 98)]⟩] (brds1 σ) [1, 4, 6, 7] (cW ⟨ia, ic, bins1 σ, 0, false⟩ [1, 4, 6, 7] bix1 8) 3 = bes1 := by kernel_rfl
theorem bpre1 (ia : Option Addr) (ic : Nat) (σ : Nat → Option Addr × Nat) : OfPre ⟨ia, ic, bins1 σ, 0, false⟩ brho1 bix1 (cW ⟨ia, ic, bins1 σ, 0, false⟩ [1, 4, 6, 7] bix1 8) (brds1 σ) [1, 4, 6, 7] where
 ok := ⟨show (0 : Int) ≤ 0 ∧ (0 : Int) ≤ 9 by decide, by simp [bins1], fun i hi => by
  simp only [bins1, List.mem_cons, List.not_mem_nil, or_false] at hi
  rcases hi with rfl | rfl | rfl | rfl | rfl | rfl | rfl | rfl
  ·exact bok_A (m := 8) (by decide)
  ·exact bok_S (m := 8) (by decide)
  ·exact bok_J (m := 8) (by decide)
  ·exact bok_A (m := 8) (by decide)
  ·exact bok_S (m := 8) (by decide)
  ·exact bok_J (m := 8) (by decide)
  ·exact bok_S (m := 8) (by decide)
  ·exact bok_D (m := 8) , fun h => .inl rfl⟩
 ends := bsil1 ia ic σ
 no5 := fun i hi => by
  simp only [bins1, List.mem_cons, List.not_mem_nil, or_false] at hi
  rcases hi with rfl | rfl | rfl | rfl | rfl | rfl | rfl | rfl <;> simp [binsA, binsS, binsJ, binsD]
 erd := rfl
 eno := rfl
 few := by show 3 ≤ 63; omega
 ascii := rfl
 e12 := by rw [bends1]; decide
 isC := bisC1 ia ic σ
 first := by rw [bfirst1]; decide
 edges := fun cls h => by
  obtain ⟨a0, c0, a1, c1, a2, c2, rfl⟩ := bcls1 h
  refine ⟨by simp, bcls_ok, ?_⟩
  rw [show (brds1 σ).length = 3 from rfl, bedges1]
  exact ⟨by decide, by decide⟩
theorem bgr1 {ia : Option Addr} {ic : Nat} {σ : Nat → Option Addr × Nat} {w w' : World} {e : Ending} (h : OfPost w (cW ⟨ia, ic, bins1 σ, 0, false⟩ [1, 4, 6, 7] bix1 8) (brds1 σ) [1, 4, 6, 7] e w') : Keeps [] w w' ∧ ∃ x : Gr, e = .returned (.tuple #[x.val, .int .i64 0]) ∧ GrIn w' x ∧ BGr x [1, 4, 6, 7] [1, 1, 1, 0] bes1 := by
 obtain ⟨h1, x, h2, h3, h4, h5, h6, h7⟩ := h
 obtain ⟨a0, c0, a1, c1, a2, c2, h8⟩ := bcls1 h4
 refine ⟨h1, x, h2, h3, h5, by rw [h6, bfirst1], ?_, a0, c0, a1, c1, a2, c2, h8⟩
 rw [h7, h8, show (brds1 σ).length = 3 from rfl, bedges1]
set_option linter.unusedVariables false in
def bins2 (σ : Nat → Option Addr × Nat) : List Ins := [binsA 1 3 (σ 0), binsS (σ 1) 97, binsJ 0 (σ 2), binsS (σ 3) 98, binsD (σ 4)]
set_option linter.unusedVariables false in
def brds2 (σ : Nat → Option Addr × Nat) : List Cl := [⟨(σ 1).1, (σ 1).2, [(97, 97)]⟩, ⟨(σ 3).1, (σ 3).2, [(98, 98)]⟩]
def brho2 (n : Nat) : Nat := [1, 0, 2, 0, 0].getD n 0
def bix2 (n : Nat) : Nat := [0, 0, 0, 1, 2].getD n 0
theorem bends2 (σ : Nat → Option Addr × Nat) : endsK 255 (brds2 σ) (brds2 σ).length = [(97, 0, 0), (98, 0, 0), (98, 1, 0), (99, 1, 0)] := rfl
theorem bsplit2 : SplitAt 255 [(97, 0, 0), (98, 0, 0), (98, 1, 0), (99, 1, 0)] 4 := ⟨by decide +kernel, by decide +kernel⟩
theorem bout2 : (splitN 255 [(97, 0, 0), (98, 0, 0), (98, 1, 0), (99, 1, 0)] 4).out = [[(0, 96), (99, 255)], [(97, 97)], [(98, 98)]] := by decide +kernel
theorem bcls2 {σ : Nat → Option Addr × Nat} {cls : List Cl} (h : ∃ j, SplitAt 255 (endsK 255 (brds2 σ) (brds2 σ).length) j ∧ cls.map Cl.sp = (splitN 255 (endsK 255 (brds2 σ) (brds2 σ).length) j).out) :
  ∃ a0 c0 a1 c1 a2 c2, cls = [⟨a0, c0, [(0, 96), (99, 255)]⟩, ⟨a1, c1, [(97, 97)]⟩, ⟨a2, c2, [(98, 98)]⟩] := by
 obtain ⟨j, h1, h2⟩ := h
 rw [bends2] at h1 h2
 obtain rfl := h1.uniq bsplit2
 rw [bout2] at h2
 match cls, h2 with
 | [⟨a0, c0, s0⟩, ⟨a1, c1, s1⟩, ⟨a2, c2, s2⟩], h2 =>
  simp only [List.map_cons, List.map_nil, List.cons.injEq, and_true] at h2
  obtain ⟨rfl, rfl, rfl⟩ := h2
  exact ⟨a0, c0, a1, c1, a2, c2, rfl⟩
theorem bsil2 (ia : Option Addr) (ic : Nat) (σ : Nat → Option Addr × Nat) : Ends ⟨ia, ic, bins2 σ, 0, false⟩ brho2 := by
 intro n h t ht
 have h8 : n < 5 := h
 match n, h8 with
 | 0, _ => simp [bins2, silL, binsA] at ht; rcases ht with rfl | rfl; exact ⟨1, rfl, show 1 < 5 by decide, by decide⟩; exact ⟨3, rfl, show 3 < 5 by decide, by decide⟩
 | 1, _ => simp [bins2, silL, binsS] at ht
 | 2, _ => simp [bins2, silL, binsJ] at ht; subst ht; exact ⟨0, rfl, show 0 < 5 by decide, by decide⟩
 | 3, _ => simp [bins2, silL, binsS] at ht
 | 4, _ => simp [bins2, silL, binsD] at ht
theorem bisC2 (ia : Option Addr) (ic : Nat) (σ : Nat → Option Addr × Nat) : IsC ⟨ia, ic, bins2 σ, 0, false⟩ [1, 3, 4] bix2 (cW ⟨ia, ic, bins2 σ, 0, false⟩ [1, 3, 4] bix2 5) := by
 refine cW.isC (bsil2 ia ic σ) (fun n hn => ?_) (fun n h ho => ?_) (by decide) (by decide)
 ·have h8 : n < 5 := hn
  have h9 : ∀ n, n < 5 → brho2 n < 5 := by decide
  exact h9 n h8
 ·have h8 : n < 5 := h
  match n, h8 with
  | 0, _ => cases ho
  | 1, _ => exact ⟨by decide, rfl, fun j hj => by simp [bix2] at hj⟩
  | 2, _ => cases ho
  | 3, _ =>
   exact ⟨by decide, rfl, fun j hj => by
    have hj : j < 1 := hj
    obtain rfl : j = 0 := by omega
    show (1 : Int) ≠ 3; decide⟩
  | 4, _ => cases ho
theorem bfirst2 (ia : Option Addr) (ic : Nat) (σ : Nat → Option Addr × Nat) : cW ⟨ia, ic, bins2 σ, 0, false⟩ [1, 3, 4] bix2 5 0 = [1, 1, 0] := by kernel_rfl
def bes2 : List E4 := [⟨0, 0, 1, 1⟩, ⟨0, 1, 1, 1⟩, ⟨1, 2, 2, 1⟩]
theorem bedges2 (ia : Option Addr) (ic : Nat) (σ : Nat → Option Addr × Nat) (a0 a1 a2 : Option Addr) (c0 c1 c2 : Nat) : ofE [⟨a0, c0, [(0, 96), (99, 255)]⟩, ⟨a1, c1, [(97, 97)]⟩, ⟨a2, c2, [(98, 98)]⟩] (brds2 σ) [1, 3, 4] (cW ⟨ia, ic, bins2 σ, 0, false⟩ [1, 3, 4] bix2 5) 2 = bes2 := by kernel_rfl
theorem bpre2 (ia : Option Addr) (ic : Nat) (σ : Nat → Option Addr × Nat) : OfPre ⟨ia, ic, bins2 σ, 0, false⟩ brho2 bix2 (cW ⟨ia, ic, bins2 σ, 0, false⟩ [1, 3, 4] bix2 5) (brds2 σ) [1, 3, 4] where
 ok := ⟨show (0 : Int) ≤ 0 ∧ (0 : Int) ≤ 9 by decide, by simp [bins2], fun i hi => by
  simp only [bins2, List.mem_cons, List.not_mem_nil, or_false] at hi
  rcases hi with rfl | rfl | rfl | rfl | rfl
  ·exact bok_A (m := 5) (by decide)
  ·exact bok_S (m := 5) (by decide)
  ·exact bok_J (m := 5) (by decide)
  ·exact bok_S (m := 5) (by decide)
  ·exact bok_D (m := 5) , fun h => .inl rfl⟩
 ends := bsil2 ia ic σ
 no5 := fun i hi => by
  simp only [bins2, List.mem_cons, List.not_mem_nil, or_false] at hi
  rcases hi with rfl | rfl | rfl | rfl | rfl <;> simp [binsA, binsS, binsJ, binsD]
 erd := rfl
 eno := rfl
 few := by show 2 ≤ 63; omega
 ascii := rfl
 e12 := by rw [bends2]; decide
 isC := bisC2 ia ic σ
 first := by rw [bfirst2]; decide
 edges := fun cls h => by
  obtain ⟨a0, c0, a1, c1, a2, c2, rfl⟩ := bcls2 h
  refine ⟨by simp, bcls_ok, ?_⟩
  rw [show (brds2 σ).length = 2 from rfl, bedges2]
  exact ⟨by decide, by decide⟩
theorem bgr2 {ia : Option Addr} {ic : Nat} {σ : Nat → Option Addr × Nat} {w w' : World} {e : Ending} (h : OfPost w (cW ⟨ia, ic, bins2 σ, 0, false⟩ [1, 3, 4] bix2 5) (brds2 σ) [1, 3, 4] e w') : Keeps [] w w' ∧ ∃ x : Gr, e = .returned (.tuple #[x.val, .int .i64 0]) ∧ GrIn w' x ∧ BGr x [1, 3, 4] [1, 1, 0] bes2 := by
 obtain ⟨h1, x, h2, h3, h4, h5, h6, h7⟩ := h
 obtain ⟨a0, c0, a1, c1, a2, c2, h8⟩ := bcls2 h4
 refine ⟨h1, x, h2, h3, h5, by rw [h6, bfirst2], ?_, a0, c0, a1, c1, a2, c2, h8⟩
 rw [h7, h8, show (brds2 σ).length = 2 from rfl, bedges2]
def wayF (es : List E4) : Nat → Nat → Nat → Bool
 | 0, n, k => decide (n = k)
 | f + 1, n, k => decide (n = k) || es.any fun e => decide (e.fr = n) && (decide (0 ≤ e.tt) && wayF es f e.tt.toNat k)
theorem wayF_way {es : List E4} : ∀ {f n k : Nat}, wayF es f n k = true → Way (Ere es) n k
 | 0, n, k, h => by
  have e : n = k := of_decide_eq_true h
  subst e
  exact .refl _
 | f + 1, n, k, h => by
  simp only [wayF, Bool.or_eq_true, List.any_eq_true, Bool.and_eq_true, decide_eq_true_eq] at h
  rcases h with rfl | ⟨e, he, h1, h2, h3⟩
  ·exact .refl _
  ·exact Way.cons ⟨e, he, h1, by omega⟩ (wayF_way h3)
theorem wrows_of {es : List E4} {N : Nat} {rows : List Nat} (hl : rows.length = N) (hlt : ∀ n, n < N → rows.getD n 0 < 2 ^ N) (h1 : ∀ n, n < N → (rows.getD n 0).testBit n = true)
  (h2 : ∀ n, n < N → ∀ e ∈ es, (rows.getD n 0).testBit e.fr.toNat = true → (rows.getD n 0).testBit e.tt.toNat = true) (h3 : ∀ n, n < N → ∀ k, k < N → (rows.getD n 0).testBit k = true → wayF es N n k = true) : WRows (Ere es) N rows := by
 refine ⟨hl, fun n hn k => ⟨fun h => ?_, fun h => ?_⟩⟩
 ·rcases Nat.lt_or_ge k N with hk | hk
  ·exact wayF_way (h3 n hn k hk h)
  ·have := Nat.testBit_lt_two_pow (Nat.lt_of_lt_of_le (hlt n hn) (Nat.pow_le_pow_right (by decide) hk))
   rw [this] at h
   cases h
 ·induction h with
  | refl => exact h1 n hn
  | snoc _ hr ih =>
   obtain ⟨e, he, e1, e2⟩ := hr
   have := h2 n hn e he (by rw [e1]; exact ih)
   rw [e2] at this
   exact this
theorem wrows_uniq {R : Nat → Nat → Prop} {N : Nat} {a b : List Nat} (ha : WRows R N a) (hb : WRows R N b) : a = b := by
 refine List.ext_getElem (by rw [ha.1, hb.1]) fun n h1 h2 => ?_
 refine Nat.eq_of_testBit_eq fun k => ?_
 have e1 := ha.2 n (by rw [← ha.1]; exact h1) k
 have e2 := hb.2 n (by rw [← ha.1]; exact h1) k
 simp only [List.getD_eq_getElem?_getD, List.getElem?_eq_getElem h1, List.getElem?_eq_getElem h2, Option.getD_some] at e1 e2
 exact Bool.eq_iff_iff.2 (e1.trans e2.symm)
theorem lead_inv {α : Type} {succ : α → Int → α → Prop} {sc : α → List (Int × α)} (h : ∀ s c t, succ s c t ↔ (c, t) ∈ sc s) {s : α} {I : List α} (h0 : s ∈ I) (h1 : ∀ x ∈ I, ∀ p ∈ sc x, p.2 ∈ I) {v : List Int} {t : α} (k : Lead succ s v t) : t ∈ I := by
 induction k with
 | nil => exact h0
 | snoc _ hs ih => exact h1 _ ih _ ((h _ _ _).1 hs)
def dsc (es : List E4) (part : Nat) (s : Tri) : List (Int × Tri) :=
 es.flatMap fun e => if e.fr = s.1 ∧ part.testBit e.tt.toNat = true then (es.filter fun f => f.fr = s.2.1 ∧ f.cl = e.cl ∧ part.testBit f.tt.toNat = true).map fun f => (e.cl, dTo s e f) else []
theorem dsc_iff (es : List E4) (part : Nat) (s : Tri) (c : Int) (t : Tri) : DSucc es part s c t ↔ (c, t) ∈ dsc es part s := by
 constructor
 ·rintro ⟨e, he, f, hf, h1, h2, h3, h4, h5, h6, h7⟩
  refine List.mem_flatMap.2 ⟨e, he, ?_⟩
  rw [if_pos ⟨h1, h5⟩]
  refine List.mem_map.2 ⟨f, ?_, by rw [h3, h7]⟩
  rw [List.mem_filter]
  exact ⟨hf, by simp [h2, h3, h4, h6]⟩
 ·intro h
  obtain ⟨e, he, h⟩ := List.mem_flatMap.1 h
  split at h
  ·rename_i hc
   obtain ⟨f, hf, h⟩ := List.mem_map.1 h
   rw [List.mem_filter] at hf
   simp only [Prod.mk.injEq] at h
   have hf2 := of_decide_eq_true hf.2
   exact ⟨e, he, f, hf.1, hc.1, hf2.1, h.1, by rw [hf2.2.1, h.1], hc.2, hf2.2.2, h.2.symm⟩
  ·cases h
theorem brows1 {rows : List Nat} (h : WRows (Ere bes1) 4 rows) : rows = [15, 14, 12, 8] :=
 wrows_uniq h (wrows_of rfl (by decide +kernel) (by decide +kernel) (by decide +kernel) (by decide +kernel))
theorem brows2 {rows : List Nat} (h : WRows (Ere bes2) 3 rows) : rows = [7, 6, 4] :=
 wrows_uniq h (wrows_of rfl (by decide +kernel) (by decide +kernel) (by decide +kernel) (by decide +kernel))
theorem bnd_key {es : List E4} {rows : List Nat} {n : Nat} (h : ∀ x ∈ [((n : Int), (n : Int), (0 : Int))], ∀ p ∈ dsc es (partN rows n) x, p.2 ∈ [((n : Int), (n : Int), (0 : Int))]) (v : List Int) : ¬ Lead (DSucc es (partN rows n)) ((n : Int), (n : Int), (0 : Int)) v ((n : Int), (n : Int), (1 : Int)) := by
 intro hv
 have := lead_inv (dsc_iff es _) (I := [((n : Int), (n : Int), (0 : Int))]) (by simp) h hv
 simp at this
theorem bnd1 : ∀ n : Nat, n < 4 → ∀ rows, WRows (Ere bes1) 4 rows → ∀ v, ¬ Lead (DSucc bes1 (partN rows n)) ((n : Int), (n : Int), (0 : Int)) v ((n : Int), (n : Int), (1 : Int)) := by
 intro n hn rows hr v
 rw [brows1 hr]
 have h : n = 0 ∨ n = 1 ∨ n = 2 ∨ n = 3 := by omega
 rcases h with rfl | rfl | rfl | rfl
 ·exact bnd_key (n := 0) (by decide +kernel) v
 ·exact bnd_key (n := 1) (by decide +kernel) v
 ·exact bnd_key (n := 2) (by decide +kernel) v
 ·exact bnd_key (n := 3) (by decide +kernel) v
theorem bnd2 : ∀ n : Nat, n < 3 → ∀ rows, WRows (Ere bes2) 3 rows → ∀ v, ¬ Lead (DSucc bes2 (partN rows n)) ((n : Int), (n : Int), (0 : Int)) v ((n : Int), (n : Int), (1 : Int)) := by
 intro n hn rows hr v
 rw [brows2 hr]
 have h : n = 0 ∨ n = 1 ∨ n = 2 := by omega
 rcases h with rfl | rfl | rfl
 ·exact bnd_key (n := 0) (by decide +kernel) v
 ·exact bnd_key (n := 1) (by decide +kernel) v
 ·exact bnd_key (n := 2) (by decide +kernel) v
theorem gd1_rows {x : Gr} (h : BGr x [1, 4, 6, 7] [1, 1, 1, 0] bes1) : ngRows x = [15, 14, 12, 8] := by
 obtain ⟨h1, h2, h3, _⟩ := h
 unfold ngRows
 rw [h1, h3]
 decide +kernel
theorem gd1_pas {x : Gr} (h : BGr x [1, 4, 6, 7] [1, 1, 1, 0] bes1) (j : Nat) : ngPas x j = pasK [15, 14, 12, 8] (reaK [1, 1, 1, 0] [15, 14, 12, 8] 4) 4 (of0 4 4) j := by
 have h0 := gd1_rows h
 obtain ⟨h1, h2, h3, _⟩ := h
 unfold ngPas ngRea
 rw [h0, h1, h2]
 rfl
theorem gd1_of {x : Gr} (h : BGr x [1, 4, 6, 7] [1, 1, 1, 0] bes1) : (ngPas x 2).of = [0, 1, 2, 3] ∧ (ngPas x 2).L = [[0], [1], [2], [3]] ∧ (ngPas x 2).fin = true ∧ (ngPas x 0).fin = false ∧ (ngPas x 1).fin = false := by
 simp only [gd1_pas h]
 decide +kernel
theorem gd1_ps {ps : List Pt} (h : Raw ps [[0], [1], [2], [3]]) : ∃ a0 c0 a1 c1 a2 c2 a3 c3, ps = [⟨a0, c0, [0], false, false, false⟩, ⟨a1, c1, [1], false, false, false⟩, ⟨a2, c2, [2], false, false, false⟩, ⟨a3, c3, [3], false, false, false⟩] := by
 unfold Raw at h
 match ps, h with
 | [⟨a0, c0, n0, x0, y0, z0⟩, ⟨a1, c1, n1, x1, y1, z1⟩, ⟨a2, c2, n2, x2, y2, z2⟩, ⟨a3, c3, n3, x3, y3, z3⟩], h =>
  simp only [List.map_cons, List.map_nil, List.cons.injEq, Prod.mk.injEq, and_true] at h
  obtain ⟨⟨rfl, rfl, rfl, rfl⟩, ⟨rfl, rfl, rfl, rfl⟩, ⟨rfl, rfl, rfl, rfl⟩, ⟨rfl, rfl, rfl, rfl⟩⟩ := h
  exact ⟨_, _, _, _, _, _, _, _, rfl⟩
theorem gd1_qs {x : Gr} (h : BGr x [1, 4, 6, 7] [1, 1, 1, 0] bes1) (a0 a1 a2 a3 : Option Nat) (c0 c1 c2 c3 : Nat) : qsP x 1 [⟨a0, c0, [0], false, false, false⟩, ⟨a1, c1, [1], false, false, false⟩, ⟨a2, c2, [2], false, false, false⟩, ⟨a3, c3, [3], false, false, false⟩] = [⟨a0, c0, [0], true, true, true⟩, ⟨a1, c1, [1], true, true, false⟩, ⟨a2, c2, [2], false, false, false⟩, ⟨a3, c3, [3], false, false, false⟩] := by
 unfold qsP
 rw [(gd1_of h).1]
 obtain ⟨h1, h2, h3, _⟩ := h
 rw [h1, h3]
 kernel_rfl
theorem gd1_rk {x : Gr} (h : BGr x [1, 4, 6, 7] [1, 1, 1, 0] bes1) (a0 a1 a2 a3 : Option Nat) (c0 c1 c2 c3 : Nat) : rkP x 1 [⟨a0, c0, [0], false, false, false⟩, ⟨a1, c1, [1], false, false, false⟩, ⟨a2, c2, [2], false, false, false⟩, ⟨a3, c3, [3], false, false, false⟩] = [0, 1, 1, 1] := by
 unfold rkP
 rw [gd1_qs h, (gd1_of h).1]
 obtain ⟨h1, h2, h3, _⟩ := h
 rw [h1, h3]
 kernel_rfl
theorem gd1_fac {x : Gr} (h : BGr x [1, 4, 6, 7] [1, 1, 1, 0] bes1) (a0 a1 a2 a3 : Option Nat) (c0 c1 c2 c3 : Nat) : facP 6 x (ngPas x 2).of [⟨a0, c0, [0], true, true, true⟩, ⟨a1, c1, [1], true, true, false⟩, ⟨a2, c2, [2], false, false, false⟩, ⟨a3, c3, [3], false, false, false⟩] = 528 := by
 unfold facP
 rw [(gd1_of h).1]
 obtain ⟨h1, h2, h3, _⟩ := h
 rw [h1, h2, h3]
 kernel_rfl
theorem gd1_deg {x : Gr} (h : BGr x [1, 4, 6, 7] [1, 1, 1, 0] bes1) (a0 a1 a2 a3 : Option Nat) (c0 c1 c2 c3 : Nat) : degreeP (ngPas x 2).of [0, 1, 1, 1] [⟨a0, c0, [0], true, true, true⟩, ⟨a1, c1, [1], true, true, false⟩, ⟨a2, c2, [2], false, false, false⟩, ⟨a3, c3, [3], false, false, false⟩] = 2 := by
 rw [(gd1_of h).1]
 kernel_rfl
theorem gd1_E : ∀ i, i < 6 → (0 ≤ (bes1.getD i e40).fr ∧ (bes1.getD i e40).fr < (4 : Nat)) ∧ (0 ≤ (bes1.getD i e40).tt ∧ (bes1.getD i e40).tt < (4 : Nat)) ∧ 0 ≤ (bes1.getD i e40).cl ∧ (bes1.getD i e40).cl ≤ 1000000 := by decide +kernel
theorem gd1_W : ∀ i, 0 ≤ (bes1.getD i e40).ws ∧ (bes1.getD i e40).ws ≤ 1099511627777 := by
 intro i
 by_cases hi : i < 6
 ·have h : ∀ i, i < 6 → 0 ≤ (bes1.getD i e40).ws ∧ (bes1.getD i e40).ws ≤ 1099511627777 := by decide +kernel
  exact h i hi
 ·rw [List.getD_eq_getElem?_getD, List.getElem?_eq_none (show bes1.length ≤ i by simpa [bes1] using Nat.le_of_not_lt hi)]; decide
theorem gd1_O : ∀ i, ([0, 1, 2, 3] : List Int).getD i 0 < (4 : Nat) := by
 intro i
 by_cases hi : i < 4
 ·have h : ∀ i, i < 4 → ([0, 1, 2, 3] : List Int).getD i 0 < (4 : Nat) := by decide +kernel
  exact h i hi
 ·rw [List.getD_eq_getElem?_getD, List.getElem?_eq_none (by simp; omega)]; decide
theorem gd1_F : ∀ i, 0 ≤ ([1, 1, 1, 0] : List Int).getD i 0 ∧ ([1, 1, 1, 0] : List Int).getD i 0 ≤ 1099511627777 := by
 intro i
 by_cases hi : i < 4
 ·have h : ∀ i, i < 4 → 0 ≤ ([1, 1, 1, 0] : List Int).getD i 0 ∧ ([1, 1, 1, 0] : List Int).getD i 0 ≤ 1099511627777 := by decide +kernel
  exact h i hi
 ·rw [List.getD_eq_getElem?_getD, List.getElem?_eq_none (by simp; omega)]; decide
theorem gd1_C : ∀ i, i < 6 → 0 ≤ ([0, 1, 2, 3] : List Int).getD (bes1.getD i e40).fr.toNat 0 → 0 ≤ ([0, 1, 2, 3] : List Int).getD (bes1.getD i e40).tt.toNat 0 := by decide +kernel
theorem gd1 {x : Gr} (h : BGr x [1, 4, 6, 7] [1, 1, 1, 0] bes1) (hg : gvalE x = 0) : GoodX x 1 6 := by
 have hof := gd1_of h
 have hh := h
 obtain ⟨h1, h2, h3, _⟩ := hh
 have n1 : x.nodes.length = 4 := by rw [h1]; rfl
 have n3 : x.edges.length = 6 := by rw [h3]; rfl
 have nl : ∀ ps, Raw ps (ngPas x 2).L → ∃ a0 c0 a1 c1 a2 c2 a3 c3, ps = [⟨a0, c0, [0], false, false, false⟩, ⟨a1, c1, [1], false, false, false⟩, ⟨a2, c2, [2], false, false, false⟩, ⟨a3, c3, [3], false, false, false⟩] := fun ps hr => gd1_ps (by rw [hof.2.1] at hr; exact hr)
 refine ⟨⟨by rw [n1]; decide, by rw [h2, n1]; rfl, by rw [n3]; decide, ?_, hof.2.2.1, fun j hj => ?_, by decide, ?_⟩, hg, fun ps hr i hi => ?_, fun ps hr => ?_, fun ps hr => ?_, fun ps hr => ?_, by decide, by rw [n3]; decide⟩
 ·rw [n3, n1, h3]; intro i hi; have := gd1_E i hi; exact ⟨this.1, this.2.1⟩
 ·have hj : j = 0 ∨ j = 1 := by omega
  rcases hj with rfl | rfl
  ·exact hof.2.2.2.1
  ·exact hof.2.2.2.2
 ·rw [hof.1, hof.2.1]
  exact ⟨by rw [n1]; rfl, by rw [n1]; decide, by decide, gd1_O, by rw [n3, n1, h3]; exact gd1_E, by rw [n3]; decide, by rw [n3, h3]; exact gd1_C⟩
 ·obtain ⟨a0, c0, a1, c1, a2, c2, a3, c3, rfl⟩ := nl ps hr
  rw [gd1_qs h] at hi ⊢
  have hd : ∀ n : Nat, n < 4 → NoDbl x (n : Int) := fun n hn => ⟨by rw [n1]; omega, by rw [n1, h3, Int.toNat_natCast]; exact bnd1 n hn⟩
  simp only [List.length_cons, List.length_nil] at hi
  have hc : i = 0 ∨ i = 1 ∨ i = 2 ∨ i = 3 := by omega
  rcases hc with rfl | rfl | rfl | rfl
  ·exact ⟨Nat.zero_lt_one, hd 0 (by decide)⟩
  ·exact ⟨Nat.zero_lt_one, hd 1 (by decide)⟩
  ·exact ⟨Nat.zero_lt_one, hd 2 (by decide)⟩
  ·exact ⟨Nat.zero_lt_one, hd 3 (by decide)⟩
 ·obtain ⟨a0, c0, a1, c1, a2, c2, a3, c3, rfl⟩ := nl ps hr
  rw [gd1_qs h, hof.1]
  refine ⟨by rw [n1]; rfl, by rw [n1]; decide, by simp, gd1_O, ?_, by rw [h3]; exact gd1_W, by rw [n3]; decide, by rw [h2, n1]; rfl, by rw [h2]; exact gd1_F, fun i hi => ?_⟩
  ·rw [n3, n1, h3]; intro i hi; have := gd1_E i hi; exact ⟨this.1, this.2.1⟩
  ·rw [n1]
   simp only [List.length_cons, List.length_nil] at hi
   have hc : i = 0 ∨ i = 1 ∨ i = 2 ∨ i = 3 := by omega
   rcases hc with rfl | rfl | rfl | rfl
   ·exact ⟨by simp, fun k hk => by
     have hk0 : k = 0 := by simp at hk; omega
     subst hk0
     simp⟩
   ·exact ⟨by simp, fun k hk => by
     have hk0 : k = 0 := by simp at hk; omega
     subst hk0
     simp⟩
   ·exact ⟨by simp, fun k hk => by
     have hk0 : k = 0 := by simp at hk; omega
     subst hk0
     simp⟩
   ·exact ⟨by simp, fun k hk => by
     have hk0 : k = 0 := by simp at hk; omega
     subst hk0
     simp⟩
 ·obtain ⟨a0, c0, a1, c1, a2, c2, a3, c3, rfl⟩ := nl ps hr
  rw [gd1_qs h]
  simp
 ·obtain ⟨a0, c0, a1, c1, a2, c2, a3, c3, rfl⟩ := nl ps hr
  rw [gd1_qs h, gd1_fac h]
  decide
theorem gd2_rows {x : Gr} (h : BGr x [1, 3, 4] [1, 1, 0] bes2) : ngRows x = [7, 6, 4] := by
 obtain ⟨h1, h2, h3, _⟩ := h
 unfold ngRows
 rw [h1, h3]
 decide +kernel
theorem gd2_pas {x : Gr} (h : BGr x [1, 3, 4] [1, 1, 0] bes2) (j : Nat) : ngPas x j = pasK [7, 6, 4] (reaK [1, 1, 0] [7, 6, 4] 3) 3 (of0 3 3) j := by
 have h0 := gd2_rows h
 obtain ⟨h1, h2, h3, _⟩ := h
 unfold ngPas ngRea
 rw [h0, h1, h2]
 rfl
theorem gd2_of {x : Gr} (h : BGr x [1, 3, 4] [1, 1, 0] bes2) : (ngPas x 2).of = [0, 1, 2] ∧ (ngPas x 2).L = [[0], [1], [2]] ∧ (ngPas x 2).fin = true ∧ (ngPas x 0).fin = false ∧ (ngPas x 1).fin = false := by
 simp only [gd2_pas h]
 decide +kernel
theorem gd2_ps {ps : List Pt} (h : Raw ps [[0], [1], [2]]) : ∃ a0 c0 a1 c1 a2 c2, ps = [⟨a0, c0, [0], false, false, false⟩, ⟨a1, c1, [1], false, false, false⟩, ⟨a2, c2, [2], false, false, false⟩] := by
 unfold Raw at h
 match ps, h with
 | [⟨a0, c0, n0, x0, y0, z0⟩, ⟨a1, c1, n1, x1, y1, z1⟩, ⟨a2, c2, n2, x2, y2, z2⟩], h =>
  simp only [List.map_cons, List.map_nil, List.cons.injEq, Prod.mk.injEq, and_true] at h
  obtain ⟨⟨rfl, rfl, rfl, rfl⟩, ⟨rfl, rfl, rfl, rfl⟩, ⟨rfl, rfl, rfl, rfl⟩⟩ := h
  exact ⟨_, _, _, _, _, _, rfl⟩
theorem gd2_qs {x : Gr} (h : BGr x [1, 3, 4] [1, 1, 0] bes2) (a0 a1 a2 : Option Nat) (c0 c1 c2 : Nat) : qsP x 1 [⟨a0, c0, [0], false, false, false⟩, ⟨a1, c1, [1], false, false, false⟩, ⟨a2, c2, [2], false, false, false⟩] = [⟨a0, c0, [0], true, true, false⟩, ⟨a1, c1, [1], false, false, false⟩, ⟨a2, c2, [2], false, false, false⟩] := by
 unfold qsP
 rw [(gd2_of h).1]
 obtain ⟨h1, h2, h3, _⟩ := h
 rw [h1, h3]
 kernel_rfl
theorem gd2_rk {x : Gr} (h : BGr x [1, 3, 4] [1, 1, 0] bes2) (a0 a1 a2 : Option Nat) (c0 c1 c2 : Nat) : rkP x 1 [⟨a0, c0, [0], false, false, false⟩, ⟨a1, c1, [1], false, false, false⟩, ⟨a2, c2, [2], false, false, false⟩] = [0, 0, 0] := by
 unfold rkP
 rw [gd2_qs h, (gd2_of h).1]
 obtain ⟨h1, h2, h3, _⟩ := h
 rw [h1, h3]
 kernel_rfl
theorem gd2_fac {x : Gr} (h : BGr x [1, 3, 4] [1, 1, 0] bes2) (a0 a1 a2 : Option Nat) (c0 c1 c2 : Nat) : facP 4 x (ngPas x 2).of [⟨a0, c0, [0], true, true, false⟩, ⟨a1, c1, [1], false, false, false⟩, ⟨a2, c2, [2], false, false, false⟩] = 120 := by
 unfold facP
 rw [(gd2_of h).1]
 obtain ⟨h1, h2, h3, _⟩ := h
 rw [h1, h2, h3]
 kernel_rfl
theorem gd2_deg {x : Gr} (h : BGr x [1, 3, 4] [1, 1, 0] bes2) (a0 a1 a2 : Option Nat) (c0 c1 c2 : Nat) : degreeP (ngPas x 2).of [0, 0, 0] [⟨a0, c0, [0], true, true, false⟩, ⟨a1, c1, [1], false, false, false⟩, ⟨a2, c2, [2], false, false, false⟩] = 1 := by
 rw [(gd2_of h).1]
 kernel_rfl
theorem gd2_E : ∀ i, i < 3 → (0 ≤ (bes2.getD i e40).fr ∧ (bes2.getD i e40).fr < (3 : Nat)) ∧ (0 ≤ (bes2.getD i e40).tt ∧ (bes2.getD i e40).tt < (3 : Nat)) ∧ 0 ≤ (bes2.getD i e40).cl ∧ (bes2.getD i e40).cl ≤ 1000000 := by decide +kernel
theorem gd2_W : ∀ i, 0 ≤ (bes2.getD i e40).ws ∧ (bes2.getD i e40).ws ≤ 1099511627777 := by
 intro i
 by_cases hi : i < 3
 ·have h : ∀ i, i < 3 → 0 ≤ (bes2.getD i e40).ws ∧ (bes2.getD i e40).ws ≤ 1099511627777 := by decide +kernel
  exact h i hi
 ·rw [List.getD_eq_getElem?_getD, List.getElem?_eq_none (show bes2.length ≤ i by simpa [bes2] using Nat.le_of_not_lt hi)]; decide
theorem gd2_O : ∀ i, ([0, 1, 2] : List Int).getD i 0 < (3 : Nat) := by
 intro i
 by_cases hi : i < 3
 ·have h : ∀ i, i < 3 → ([0, 1, 2] : List Int).getD i 0 < (3 : Nat) := by decide +kernel
  exact h i hi
 ·rw [List.getD_eq_getElem?_getD, List.getElem?_eq_none (by simp; omega)]; decide
theorem gd2_F : ∀ i, 0 ≤ ([1, 1, 0] : List Int).getD i 0 ∧ ([1, 1, 0] : List Int).getD i 0 ≤ 1099511627777 := by
 intro i
 by_cases hi : i < 3
 ·have h : ∀ i, i < 3 → 0 ≤ ([1, 1, 0] : List Int).getD i 0 ∧ ([1, 1, 0] : List Int).getD i 0 ≤ 1099511627777 := by decide +kernel
  exact h i hi
 ·rw [List.getD_eq_getElem?_getD, List.getElem?_eq_none (by simp; omega)]; decide
theorem gd2_C : ∀ i, i < 3 → 0 ≤ ([0, 1, 2] : List Int).getD (bes2.getD i e40).fr.toNat 0 → 0 ≤ ([0, 1, 2] : List Int).getD (bes2.getD i e40).tt.toNat 0 := by decide +kernel
theorem gd2 {x : Gr} (h : BGr x [1, 3, 4] [1, 1, 0] bes2) (hg : gvalE x = 0) : GoodX x 1 4 := by
 have hof := gd2_of h
 have hh := h
 obtain ⟨h1, h2, h3, _⟩ := hh
 have n1 : x.nodes.length = 3 := by rw [h1]; rfl
 have n3 : x.edges.length = 3 := by rw [h3]; rfl
 have nl : ∀ ps, Raw ps (ngPas x 2).L → ∃ a0 c0 a1 c1 a2 c2, ps = [⟨a0, c0, [0], false, false, false⟩, ⟨a1, c1, [1], false, false, false⟩, ⟨a2, c2, [2], false, false, false⟩] := fun ps hr => gd2_ps (by rw [hof.2.1] at hr; exact hr)
 refine ⟨⟨by rw [n1]; decide, by rw [h2, n1]; rfl, by rw [n3]; decide, ?_, hof.2.2.1, fun j hj => ?_, by decide, ?_⟩, hg, fun ps hr i hi => ?_, fun ps hr => ?_, fun ps hr => ?_, fun ps hr => ?_, by decide, by rw [n3]; decide⟩
 ·rw [n3, n1, h3]; intro i hi; have := gd2_E i hi; exact ⟨this.1, this.2.1⟩
 ·have hj : j = 0 ∨ j = 1 := by omega
  rcases hj with rfl | rfl
  ·exact hof.2.2.2.1
  ·exact hof.2.2.2.2
 ·rw [hof.1, hof.2.1]
  exact ⟨by rw [n1]; rfl, by rw [n1]; decide, by decide, gd2_O, by rw [n3, n1, h3]; exact gd2_E, by rw [n3]; decide, by rw [n3, h3]; exact gd2_C⟩
 ·obtain ⟨a0, c0, a1, c1, a2, c2, rfl⟩ := nl ps hr
  rw [gd2_qs h] at hi ⊢
  have hd : ∀ n : Nat, n < 3 → NoDbl x (n : Int) := fun n hn => ⟨by rw [n1]; omega, by rw [n1, h3, Int.toNat_natCast]; exact bnd2 n hn⟩
  simp only [List.length_cons, List.length_nil] at hi
  have hc : i = 0 ∨ i = 1 ∨ i = 2 := by omega
  rcases hc with rfl | rfl | rfl
  ·exact ⟨Nat.zero_lt_one, hd 0 (by decide)⟩
  ·exact ⟨Nat.zero_lt_one, hd 1 (by decide)⟩
  ·exact ⟨Nat.zero_lt_one, hd 2 (by decide)⟩
 ·obtain ⟨a0, c0, a1, c1, a2, c2, rfl⟩ := nl ps hr
  rw [gd2_qs h, hof.1]
  refine ⟨by rw [n1]; rfl, by rw [n1]; decide, by simp, gd2_O, ?_, by rw [h3]; exact gd2_W, by rw [n3]; decide, by rw [h2, n1]; rfl, by rw [h2]; exact gd2_F, fun i hi => ?_⟩
  ·rw [n3, n1, h3]; intro i hi; have := gd2_E i hi; exact ⟨this.1, this.2.1⟩
  ·rw [n1]
   simp only [List.length_cons, List.length_nil] at hi
   have hc : i = 0 ∨ i = 1 ∨ i = 2 := by omega
   rcases hc with rfl | rfl | rfl
   ·exact ⟨by simp, fun k hk => by
     have hk0 : k = 0 := by simp at hk; omega
     subst hk0
     simp⟩
   ·exact ⟨by simp, fun k hk => by
     have hk0 : k = 0 := by simp at hk; omega
     subst hk0
     simp⟩
   ·exact ⟨by simp, fun k hk => by
     have hk0 : k = 0 := by simp at hk; omega
     subst hk0
     simp⟩
 ·obtain ⟨a0, c0, a1, c1, a2, c2, rfl⟩ := nl ps hr
  rw [gd2_qs h]
  simp
 ·obtain ⟨a0, c0, a1, c1, a2, c2, rfl⟩ := nl ps hr
  rw [gd2_qs h, gd2_fac h]
  decide
end Go.Proofs.YtkekenaamnhbhaaGreat
