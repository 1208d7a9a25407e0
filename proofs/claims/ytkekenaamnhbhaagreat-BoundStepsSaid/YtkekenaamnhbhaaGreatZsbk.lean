/- Part 37 of the proof. No condition: every lemma says its own. -/
import Derived.Laws.BitsAllLaws
import Derived.Test.YtkekenaamnhbhaaGreatZsbj
namespace Go.Proofs.YtkekenaamnhbhaaGreat
open Go.RowKit
open Go.RowKit Go.Sort Go.BigFrame
set_option maxRecDepth 100000
set_option maxHeartbeats 16000000
def MaskOK (m : List Nat) : Prop := m.length = 16 ∧ ∀ x ∈ m, x < 2 ^ 64
def tog (m : List Nat) (s : Nat) : List Nat := m.set (s / 64) (m.getD (s / 64) 0 ^^^ 2 ^ (s % 64))
def zeroM : List Nat := List.replicate 16 0
theorem zeroM_ok : MaskOK zeroM := ⟨rfl, fun x hx => by rw [List.eq_of_mem_replicate hx]; decide⟩
theorem tog_word {m : List Nat} (h : MaskOK m) (s : Nat) : m.getD (s / 64) 0 ^^^ 2 ^ (s % 64) < 2 ^ 64 := by
 refine Nat.xor_lt_two_pow ?_ (Nat.pow_lt_pow_right (by decide) (Nat.mod_lt _ (by decide)))
 by_cases hs : s / 64 < m.length
 ·exact h.2 _ (by rw [List.getD_eq_getElem?_getD, List.getElem?_eq_getElem hs]; simp)
 ·rw [List.getD_eq_getElem?_getD, List.getElem?_eq_none (by omega)]; decide
theorem tog_ok {m : List Nat} (h : MaskOK m) (s : Nat) : MaskOK (tog m s) := by
 refine ⟨by simp [tog, h.1], fun x hx => ?_⟩
 rcases List.mem_or_eq_of_mem_set hx with hx | rfl
 ·exact h.2 x hx
 ·exact tog_word h s
theorem tog_comm (m : List Nat) (s t : Nat) : tog (tog m s) t = tog (tog m t) s := by
 unfold tog
 by_cases h : s / 64 = t / 64
 ·rw [h]
  by_cases hl : t / 64 < m.length
  ·simp only [List.set_set]
   congr 1
   simp only [List.getD_eq_getElem?_getD, List.getElem?_set]
   rw [List.getElem?_eq_getElem hl]
   simp only [if_pos hl, if_true, Option.getD_some]
   rw [Nat.xor_assoc, Nat.xor_assoc, Nat.xor_comm (2 ^ (s % 64))]
  ·have hz : ∀ v, m.set (t / 64) v = m := fun v => List.set_eq_of_length_le (by omega)
   simp only [hz]
 ·rw [List.set_comm _ _ h]
  simp only [List.getD_eq_getElem?_getD, List.getElem?_set, if_neg h, if_neg (Ne.symm h)]
def maskF (ys : List Tri) (m : List Nat) : List Nat := ys.foldl (fun m e => tog m e.2.1.toNat) m
theorem maskF_ok : ∀ (ys : List Tri) {m : List Nat}, MaskOK m → MaskOK (maskF ys m)
 | [], _, h => h
 | _ :: ys, _, h => maskF_ok ys (tog_ok h _)
theorem maskF_perm {ys zs : List Tri} (h : ys.Perm zs) : ∀ m, maskF ys m = maskF zs m := by
 induction h with
 | nil => exact fun _ => rfl
 | cons x _ ih => exact fun m => ih _
 | swap x y l => intro m; simp only [maskF, List.foldl_cons]; rw [tog_comm]
 | trans _ _ h1 h2 => exact fun m => (h1 m).trans (h2 m)
def maskA (ys : List Tri) (a : Int) : List Nat := maskF (ys.filter fun e => decide (e.1 ≤ a)) zeroM
theorem maskA_perm {ys zs : List Tri} (h : ys.Perm zs) (a : Int) : maskA ys a = maskA zs a := maskF_perm (h.filter _) _
def minF (ys : List Tri) (a : Int) : Int := ys.foldl (fun a e => if e.1 < a then e.1 else a) a
theorem minF_perm {ys zs : List Tri} (h : ys.Perm zs) : ∀ a, minF ys a = minF zs a := by
 induction h with
 | nil => exact fun _ => rfl
 | cons x _ ih => exact fun m => ih _
 | swap x y l => intro m; simp only [minF, List.foldl_cons]; congr 1; split <;> split <;> (try split) <;> (try split) <;> omega
 | trans _ _ h1 h2 => exact fun m => (h1 m).trans (h2 m)
theorem minF_ge : ∀ (ys : List Tri) (a : Int), (∀ e ∈ ys, a ≤ e.1) → minF ys a = a
 | [], _, _ => rfl
 | e :: ys, a, h => by
  have h1 := h e (by simp)
  show minF ys (if e.1 < a then e.1 else a) = a
  rw [if_neg (by omega)]
  exact minF_ge ys a (fun x hx => h x (by simp [hx]))
def nextE (top : Int) (ys : List Tri) (a : Int) : Int := minF (ys.filter fun e => decide (a < e.1)) (top + 1)
theorem nextE_perm {ys zs : List Tri} (h : ys.Perm zs) (top a : Int) : nextE top ys a = nextE top zs a := minF_perm (h.filter _) _
structure SS where
 at_ : Int
 seen : List (List Nat)
 out : List (List (Int × Int))
def splitStep (top : Int) (ys : List Tri) (s : SS) : SS :=
 let m := maskA ys s.at_
 let n := nextE top ys s.at_
 if m ∈ s.seen then ⟨n, s.seen, s.out.set (s.seen.idxOf m) (addS (s.out.getD (s.seen.idxOf m) []) (s.at_, n - 1))⟩
 else ⟨n, s.seen ++ [m], s.out ++ [addS [] (s.at_, n - 1)]⟩
def splitN (top : Int) (ys : List Tri) : Nat → SS
 | 0 => ⟨0, [], []⟩
 | n + 1 => splitStep top ys (splitN top ys n)
theorem splitN_perm {ys zs : List Tri} (h : ys.Perm zs) (top : Int) : ∀ n, splitN top ys n = splitN top zs n
 | 0 => rfl
 | n + 1 => by
  show splitStep top ys (splitN top ys n) = splitStep top zs (splitN top zs n)
  rw [splitN_perm h top n]
  unfold splitStep
  simp only [maskA_perm h, nextE_perm h]
theorem minF_gt : ∀ (ys : List Tri) (a b : Int), b < a → (∀ e ∈ ys, b < e.1) → b < minF ys a
 | [], _, _, h, _ => h
 | e :: ys, a, b, h, hy => by
  show b < minF ys (if e.1 < a then e.1 else a)
  refine minF_gt ys _ b ?_ (fun x hx => hy x (by simp [hx]))
  split
  ·exact hy e (by simp)
  ·exact h
theorem minF_le : ∀ (ys : List Tri) (a : Int), minF ys a ≤ a
 | [], _ => Int.le_refl _
 | e :: ys, a => by
  show minF ys (if e.1 < a then e.1 else a) ≤ a
  have := minF_le ys (if e.1 < a then e.1 else a)
  split at this <;> split <;> omega
theorem nextE_gt {top : Int} {ys : List Tri} {a : Int} (h : a ≤ top) : a < nextE top ys a :=
 minF_gt _ _ _ (by omega) (fun e he => by have := (List.mem_filter.1 he).2; simpa using this)
theorem nextE_le (top : Int) (ys : List Tri) (a : Int) : nextE top ys a ≤ top + 1 := minF_le _ _
structure CutAt (ys : List Tri) (a : Int) (j : Nat) : Prop where
 le : j ≤ ys.length
 low : ∀ e ∈ ys.take j, e.1 ≤ a
 high : ∀ e ∈ ys.drop j, a < e.1
theorem CutAt.mask {ys : List Tri} {a : Int} {j : Nat} (h : CutAt ys a j) : maskA ys a = maskF (ys.take j) zeroM := by
 unfold maskA
 conv => lhs; rw [← List.take_append_drop j ys]
 rw [List.filter_append, List.filter_eq_self.2 (fun e he => by simpa using h.low e he), List.filter_eq_nil_iff.2 (fun e he => by have := h.high e he; simp; omega), List.append_nil]
theorem ends_le {ys : List Tri} (h : Desc ekey ys 0 ys.length) {p q : Nat} (hp : p ≤ q) (hq : q < ys.length) : (ys[p]'(by omega)).1 ≤ (ys[q]).1 := by
 by_cases he : p = q
 ·subst he; exact Int.le_refl _
 ·have := h p q (Nat.zero_le _) (by omega) hq
  simp only [ekey, List.getD_eq_getElem?_getD, List.getElem?_eq_getElem hq, List.getElem?_eq_getElem (show p < ys.length by omega), Option.getD_some] at this
  omega
theorem CutAt.next {ys : List Tri} {a top : Int} {j : Nat} (h : CutAt ys a j) (hd : Desc ekey ys 0 ys.length) (ht : ∀ e ∈ ys, e.1 ≤ top) : nextE top ys a = if hj : j < ys.length then (ys[j]).1 else top + 1 := by
 unfold nextE
 have hf : (ys.filter fun e => decide (a < e.1)) = ys.drop j := by
  conv => lhs; rw [← List.take_append_drop j ys]
  rw [List.filter_append, List.filter_eq_nil_iff.2 (fun e he => by have := h.low e he; simp; omega), List.filter_eq_self.2 (fun e he => by simpa using h.high e he), List.nil_append]
 rw [hf]
 split
 ·rename_i hj
  rw [List.drop_eq_getElem_cons hj]
  have h1 := ht ys[j] (List.getElem_mem hj)
  show minF (ys.drop (j + 1)) (if (ys[j]).1 < top + 1 then (ys[j]).1 else top + 1) = _
  rw [if_pos (by omega)]
  refine minF_ge _ _ (fun e he => ?_)
  obtain ⟨i, hi, rfl⟩ := List.getElem_of_mem he
  rw [List.getElem_drop]
  exact ends_le hd (by omega) (by simp at hi; omega)
 ·rw [List.drop_eq_nil_of_le (by omega)]
  rfl
section
theorem m16Row : (152 : TypeId) < Tryz.prog.types.size := of_decide_eq_true (by kernel_rfl)
theorem m16Wide : (match Tryz.prog.underlying 152 with | some (.array _ _) | some (.struct _) => true | _ => false) = true := by rw [Tryz.underlying152]
theorem m16Keyed : Maps.Keyed Tryz.prog 152 := Maps.Keyed.of_law (deep_law_laid laidOutA (m := 2) (by omega) m16Row (by kernel_rfl) m16Wide)
theorem m16Deep : Tryz.prog.keyType 152 = true := by kernel_rfl
theorem m16Cells : Tryz.prog.cellsOf 152 = 16 := by kernel_rfl
theorem u64Cells : Tryz.prog.cellsOf 76 = 1 := by kernel_rfl
theorem wf_u64 {x : Nat} (h : x < 2 ^ 64) : (Lit.int .u64 (x : Int)).wf = true := by
 have e : IntKind.u64.min = 0 := rfl
 have e2 : IntKind.u64.max = 18446744073709551615 := rfl
 simp [Lit.wf, e, e2]
 omega
def mv (m : List Nat) : Value := .agg (m.map fun (x : Nat) => Value.int .u64 x).toArray
def mL (m : List Nat) : List Value := m.map fun (x : Nat) => Value.int .u64 x
theorem key16 {m : List Nat} (h : MaskOK m) : IsKey Tryz.prog 152 (mv m) := by
 obtain ⟨hl, hb⟩ := h
 match m, hl, hb with
 | [x0, x1, x2, x3, x4, x5, x6, x7, x8, x9, x10, x11, x12, x13, x14, x15], _, hb =>
  have h0 := wf_u64 (hb x0 (by simp)); have h1 := wf_u64 (hb x1 (by simp)); have h2 := wf_u64 (hb x2 (by simp)); have h3 := wf_u64 (hb x3 (by simp))
  have h4 := wf_u64 (hb x4 (by simp)); have h5 := wf_u64 (hb x5 (by simp)); have h6 := wf_u64 (hb x6 (by simp)); have h7 := wf_u64 (hb x7 (by simp))
  have h8 := wf_u64 (hb x8 (by simp)); have h9 := wf_u64 (hb x9 (by simp)); have h10 := wf_u64 (hb x10 (by simp)); have h11 := wf_u64 (hb x11 (by simp))
  have h12 := wf_u64 (hb x12 (by simp)); have h13 := wf_u64 (hb x13 (by simp)); have h14 := wf_u64 (hb x14 (by simp)); have h15 := wf_u64 (hb x15 (by simp))
  obtain ⟨d, hd⟩ := sizeTypes
  have hl : Tryz.prog.keyLits (d + 1 + 1) 152 (mL [x0, x1, x2, x3, x4, x5, x6, x7, x8, x9, x10, x11, x12, x13, x14, x15]) = some ([x0, x1, x2, x3, x4, x5, x6, x7, x8, x9, x10, x11, x12, x13, x14, x15].map fun (x : Nat) => Lit.int .u64 x) := by
   simp [mL, Program.keyLits, Tryz.underlying152, Tryz.underlying76, m16Cells, u64Cells, h0, h1, h2, h3, h4, h5, h6, h7, h8, h9, h10, h11, h12, h13, h14, h15, List.range, List.range.loop]
  refine ⟨.string (keyBytes ([x0, x1, x2, x3, x4, x5, x6, x7, x8, x9, x10, x11, x12, x13, x14, x15].map fun (x : Nat) => Lit.int .u64 x)), ?_⟩
  unfold keyOf
  rw [Tryz.underlying152]
  simp only [mL] at hl
  simp only [m16Deep, Value.formed, Tryz.underlying152, mv, m16Cells, hd, Value.cells]
  rw [hl]
  simp
theorem mv_inj {m n : List Nat} (h : mv m = mv n) : m = n := by
 simp only [mv, Value.agg.injEq] at h
 have h2 := congrArg Array.toList h
 simp only at h2
 exact (List.map_inj_right (fun x y h => by simp only [Value.int.injEq, true_and] at h; exact Int.ofNat.inj h)).1 h2
def MaskAt (w : World) (b : Nat) (m : List Nat) : Prop := w.heap[b]? = some (.cells (mL m).toArray 152 (0, 0))
theorem MaskAt.keep {S : List Nat} {w w' : World} {b : Nat} {m : List Nat} (h : MaskAt w b m) (k : Keeps S w w') (hb : b ∉ S) : MaskAt w' b m := k.heap h hb
theorem MaskAt.cell {w : World} {b : Nat} {m : List Nat} (h : MaskAt w b m) (i : Nat) (hi : i < m.length) : w.cell? ⟨b, i, none⟩ = some (.int .u64 (m.getD i 0 : Nat)) := by
 simp [World.cell?, show w.heap[b]? = _ from h, mL, List.getD_eq_getElem?_getD, hi]
theorem MaskAt.fz {w : World} {b : Nat} {m : List Nat} (h : MaskAt w b m) (i : Nat) : w.frozen? ⟨b, i, none⟩ = false := by simp [World.frozen?, show w.heap[b]? = _ from h]
theorem MaskAt.set {w : World} {b : Nat} {m : List Nat} (h : MaskAt w b m) (i : Nat) (x : Nat) : MaskAt (w.setCell ⟨b, i, none⟩ (.int .u64 x)) b (m.set i x) := by
 have e := heap_setCell_same w b i _ _ (.int .u64 x) h
 unfold MaskAt
 rw [e]
 simp [mL, List.map_set]
structure Row where
 b : Option Nat
 c : Nat
 sp : List (Int × Int)
def rowV (r : Row) : Value := .slice (r.b.map fun g => ⟨g, 0, none⟩) r.sp.length r.c
def RowIn (w : World) (r : Row) : Prop := SliceAt w 51 2 r.b r.sp.length r.c (spF r.sp)
structure RowsAt (w0 w : World) (a : Option Nat) (c : Nat) (R : List Row) : Prop where
 out : SliceAt w 52 1 a R.length c (R.map rowV)
 row : ∀ i (h : i < R.length), RowIn w R[i]
 new : ∀ g, a = some g → w0.heap.size ≤ g
 own : ∀ i (h : i < R.length), ∀ g, R[i].b = some g → w0.heap.size ≤ g ∧ a ≠ some g
 dis : ∀ i j (hi : i < R.length) (hj : j < R.length), i ≠ j → ∀ g, R[i].b = some g → R[j].b ≠ some g
variable {w0 w w' : World} {a : Option Nat} {c : Nat} {R : List Row}
theorem RowsAt.start (w : World) : RowsAt w w none 0 [] := ⟨SliceAt.nil _ _ _, fun i h => absurd h (Nat.not_lt_zero _), fun g h => by simp at h, fun i h => absurd h (Nat.not_lt_zero _), fun i j h => absurd h (Nat.not_lt_zero _)⟩
theorem RowsAt.keep {S : List Nat} (h : RowsAt w0 w a c R) (k : Keeps S w w') (hS : ∀ x ∈ S, x < w0.heap.size) : RowsAt w0 w' a c R where
 out := h.out.keep k (fun g hg hm => by have := h.new g hg; have := hS g hm; omega)
 row := fun i hi => SliceAt.keep (h.row i hi) k (fun g hg hm => by have := (h.own i hi g hg).1; have := hS g hm; omega)
 new := h.new
 own := h.own
 dis := h.dis
theorem RowsAt.lt (h : RowsAt w0 w a c R) (i : Nat) (hi : i < R.length) (g : Nat) (hg : R[i].b = some g) : g < w.heap.size := by
 have h1 := h.row i hi
 unfold RowIn at h1
 rw [hg] at h1
 exact h1.lt
theorem RowsAt.push (h : RowsAt w0 w a c R) (hw : w0.heap.size ≤ w.heap.size) {g c' : Nat} (hs : SliceAt w' 52 1 (some g) (R.length + 1) c' (R.map rowV ++ [.slice none 0 0])) (hk : Keeps a.toList w w') (hg : a = some g ∨ w.heap.size ≤ g) : RowsAt w0 w' (some g) c' (R ++ [⟨none, 0, []⟩]) where
 out := by rw [List.length_append, List.length_singleton, List.map_append]; exact hs
 row := fun i hi => by
  rw [List.length_append, List.length_singleton] at hi
  by_cases hl : i < R.length
  ·rw [List.getElem_append_left hl]
   exact SliceAt.keep (h.row i hl) hk (fun q hq hm => (h.own i hl q hq).2 (by simpa using hm))
  ·rw [List.getElem_append_right (by omega)]
   simp only [List.getElem_singleton]
   exact SliceAt.nil _ _ _
 new := by
  rintro q ⟨⟩
  rcases hg with hg | hg
  ·exact h.new _ hg
  ·omega
 own := fun i hi q hq => by
  rw [List.length_append, List.length_singleton] at hi
  by_cases hl : i < R.length
  ·rw [List.getElem_append_left hl] at hq
   refine ⟨(h.own i hl q hq).1, ?_⟩
   rintro ⟨⟩
   rcases hg with hg | hg
   ·exact (h.own i hl _ hq).2 hg
   ·have := h.lt i hl _ hq; omega
  ·rw [List.getElem_append_right (by omega)] at hq
   simp at hq
 dis := fun i j hi hj hne q hq hq2 => by
  rw [List.length_append, List.length_singleton] at hi hj
  by_cases hl : i < R.length
  ·by_cases hl2 : j < R.length
   ·rw [List.getElem_append_left hl] at hq
    rw [List.getElem_append_left hl2] at hq2
    exact h.dis i j hl hl2 hne q hq hq2
   ·rw [List.getElem_append_right (by omega)] at hq2
    simp at hq2
  ·rw [List.getElem_append_right (by omega)] at hq
   simp at hq
theorem RowsAt.upd {ga : Nat} (h : RowsAt w0 w (some ga) c R) (hw : w0.heap.size ≤ w.heap.size) {n : Nat} (hn : n < R.length) {r : Row} (hr : RowIn w' r) (hk : Keeps R[n].b.toList w w') (hg : ∀ q, r.b = some q → R[n].b = some q ∨ w.heap.size ≤ q) :
  RowsAt w0 (w'.setCell ⟨ga, n, none⟩ (rowV r)) (some ga) c (R.set n r) := by
 have hga := h.out.lt
 have hrg : ∀ q, r.b = some q → q ≠ ga := fun q hq he => by
  subst he
  rcases hg _ hq with h1 | h1
  ·exact (h.own n hn _ h1).2 rfl
  ·omega
 have hK : ∀ {x : Row}, (∀ q, x.b = some q → q ≠ ga) → RowIn w' x → RowIn (w'.setCell ⟨ga, n, none⟩ (rowV r)) x := fun hx hr2 =>
  SliceAt.keep hr2 ((Keeps.refl [ga] w').setCell (p := ⟨ga, n, none⟩) (by simp) _) (fun q hq hm => hx q hq (by simpa using hm))
 refine ⟨?_, ?_, h.new, ?_, ?_⟩
 ·have h1 := (h.out.keep hk (fun g hg2 hm => by cases hg2; exact (h.own n hn _ (by simpa using hm)).2 rfl)).setQ n (rowV r)
  rw [List.length_set, List.map_set]
  exact h1
 ·intro i hi
  rw [List.length_set] at hi
  rw [List.getElem_set]
  split
  ·exact hK hrg hr
  ·rename_i hne
   refine hK (fun q hq he => ?_) (SliceAt.keep (h.row i hi) hk (fun q hq hm => h.dis n i hn hi hne q (by simpa using hm) hq))
   subst he
   exact (h.own i hi _ hq).2 rfl
 ·intro i hi q hq
  rw [List.length_set] at hi
  rw [List.getElem_set] at hq
  split at hq
  ·refine ⟨?_, fun he => hrg q hq (by cases he; rfl)⟩
   rcases hg q hq with h1 | h1
   ·exact (h.own n hn _ h1).1
   ·omega
  ·exact h.own i hi q hq
 ·intro i j hi hj hne q hq hq2
  rw [List.length_set] at hi hj
  rw [List.getElem_set] at hq hq2
  split at hq <;> split at hq2
  ·omega
  ·rename_i h1 h2
   rcases hg q hq with h3 | h3
   ·exact h.dis n j hn hj h2 q h3 hq2
   ·have := h.lt j hj q hq2; omega
  ·rename_i h1 h2
   rcases hg q hq2 with h3 | h3
   ·exact h.dis n i hn hi h1 q h3 hq
   ·have := h.lt i hi q hq; omega
  ·exact h.dis i j hi hj hne q hq hq2
end
def es2 (ys : List Tri) : List (Int × Int) := ys.map fun e => (e.1, e.2.1)
theorem endsK_sets {w : World} {ca : Option Addr} {cls : List Cl} (_h : SetsOK w ca cls) (top : Int) : ∀ e ∈ endsK top cls cls.length, 0 ≤ e.2.1 ∧ e.2.1 < cls.length ∧ e.1 ≤ top := by
 intro e he
 simp only [endsK, endsI, List.mem_flatMap, List.mem_range] at he
 obtain ⟨i, hi, s, hs, he⟩ := he
 unfold ends1 at he
 rw [List.mem_append] at he
 rcases he with he | he
 ·split at he
  ·simp at he; subst he; exact ⟨by simp only; omega, by simp only; omega, by assumption⟩
  ·simp at he
 ·split at he
  ·simp at he; subst he; exact ⟨by simp only; omega, by simp only; omega, by assumption⟩
  ·simp at he
theorem EndsAt.spIn {w0 w : World} {a : Option Nat} {c : Nat} {ys : List Tri} (h : EndsAt w0 w a c ys) : SpIn w (a.map fun g => ⟨g, 0, none⟩) (es2 ys) := by
 intro h0
 obtain ⟨hs, _, _⟩ := h
 have hn : 0 < ys.length := by simpa [es2] using h0
 obtain ⟨g, rfl⟩ := SliceAt.some_of hs hn
 refine ⟨g, 0, rfl, fun i hi => ?_⟩
 have hi2 : i < ys.length := by simpa [es2] using hi
 have hg := prF_get ys [] i hi2
 rw [List.append_nil] at hg
 have hc := fun q (hq : q < (prF ys).length) => hs.cell q hq
 have e1 : i * 2 < (prF ys).length := by rw [prF_length]; omega
 have e2 : i * 2 + 1 < (prF ys).length := by rw [prF_length]; omega
 have ey : ys.getD i z0 = ys[i] := by simp [List.getD_eq_getElem?_getD, hi2]
 refine ⟨?_, ?_⟩
 ·rw [Nat.zero_add, hc _ e1, ← List.getElem?_eq_getElem e1, hg.1, ey]; simp [es2]
 ·rw [Nat.zero_add, hc _ e2, ← List.getElem?_eq_getElem e2, hg.2, ey]; simp [es2]
theorem SpIn.keepS {S : List Nat} {w w' : World} {a : Option Addr} {l : List (Int × Int)} (h : SpIn w a l) (k : Keeps S w w') (hS : ∀ p, a = some p → p.block ∉ S) : SpIn w' a l := fun h0 => by
 obtain ⟨b, off, e, hc⟩ := h h0
 have hb := hS _ e
 exact ⟨b, off, e, fun i hi => ⟨k.cell (hc i hi).1 hb, k.cell (hc i hi).2 hb⟩⟩
theorem xor_u64 (a b : Nat) (ha : a < 2 ^ 64) (hb : b < 2 ^ 64) : bits .xor .u64 (a : Int) (b : Int) = ((a ^^^ b : Nat) : Int) := u64_xor_nat a b ha hb
def SplitAt (top : Int) (ys : List Tri) (j : Nat) : Prop := (splitN top ys j).at_ = top + 1 ∧ ∀ i, i < j → (splitN top ys i).at_ ≤ top
theorem SplitAt.uniq {top : Int} {ys : List Tri} {i j : Nat} (h : SplitAt top ys i) (k : SplitAt top ys j) : i = j := by
 rcases Nat.lt_trichotomy i j with e | e | e
 ·have h1 := k.2 i e; have h2 := h.1; omega
 ·exact e
 ·have h1 := h.2 j e; have h2 := k.1; omega
structure SplI (ys : List Tri) (top : Int) (W1 wr : World) (B mb : Nat) (j n : Nat) (s : SS) (R : List Row) (a : Option Nat) (c : Nat) (gm : Value → Option Value) : Prop where
 st : s = splitN top ys j
 row : R.map Row.sp = s.out
 seen : s.seen.length = s.out.length
 ok : ∀ m ∈ s.seen, MaskOK m
 at0 : 0 ≤ s.at_
 at1 : s.at_ ≤ top + 1
 n1 : n ≤ ys.length
 jn : j ≤ n + 1
 low : ∀ e ∈ ys.take n, e.1 < s.at_
 high : ∀ e ∈ ys.drop n, s.at_ ≤ e.1
 here : j = 0 ∨ ∀ h : n < ys.length, (ys[n]).1 = s.at_
 fin : 0 < j → n = ys.length → s.at_ = top + 1
 mask : MaskAt wr B (maskF (ys.take n) zeroM)
 map : MapAt wr Tryz.prog 152 mb s.seen.length gm
 get : ∀ m, MaskOK m → gm (mv m) = if m ∈ s.seen then some (.int .i64 (s.seen.idxOf m : Nat)) else none
 rows : RowsAt W1 wr a c R
 keep : Keeps [B, mb] W1 wr
 many : R.length ≤ j
 long : ∀ r ∈ R, r.sp.length ≤ j ∧ ∀ x ∈ r.sp, 0 ≤ x.2 ∧ x.2 ≤ top
 prev : ∀ i, i < j → (splitN top ys i).at_ ≤ top
section
theorem addS_long {l : List (Int × Int)} {s : Int × Int} {j : Nat} {top : Int} (h : l.length ≤ j ∧ ∀ x ∈ l, 0 ≤ x.2 ∧ x.2 ≤ top) (hs : 0 ≤ s.2 ∧ s.2 ≤ top) : (addS l s).length ≤ j + 1 ∧ ∀ x ∈ addS l s, 0 ≤ x.2 ∧ x.2 ≤ top := by
 obtain ⟨h1, h2⟩ := h
 rcases List.eq_nil_or_concat l with rfl | ⟨r, x, hx⟩
 ·rw [addS_nil]
  exact ⟨by simp, fun y hy => by simp at hy; subst hy; exact hs⟩
 ·rw [List.concat_eq_append] at hx
  subst hx
  rw [addS_last]
  rw [List.length_append, List.length_singleton] at h1
  have hx2 := h2 x (by simp)
  split
  ·refine ⟨by simp; omega, fun y hy => ?_⟩
   rw [List.mem_append] at hy
   rcases hy with hy | hy
   ·exact h2 y (by simp [hy])
   ·simp at hy; subst hy; simp only; split <;> omega
  ·refine ⟨by simp; omega, fun y hy => ?_⟩
   rw [List.mem_append] at hy
   rcases hy with hy | hy
   ·exact h2 y hy
   ·simp at hy; subst hy; exact hs
variable {ys : List Tri} {top : Int} {W1 wr w' : World} {B mb j n n' : Nat} {s : SS} {R R' : List Row} {a a' : Option Nat} {c c' : Nat} {gm gm' : Value → Option Value}
theorem SplI.more (h : SplI ys top W1 wr B mb j n s R a c gm) (cut : CutAt ys s.at_ n') (hn : n ≤ n') (hd : Desc ekey ys 0 ys.length) (hy : ∀ e ∈ ys, e.1 ≤ top) (hat : s.at_ ≤ top) {lv : Int} (hlv : nextE top ys s.at_ = lv + 1)
  {s' : SS} (hst : s' = splitStep top ys s) (hs' : s'.at_ = lv + 1) (hrow : R'.map Row.sp = s'.out) (hseen : s'.seen.length = s'.out.length) (hok : ∀ m ∈ s'.seen, MaskOK m)
  (hmask : MaskAt w' B (maskF (ys.take n') zeroM)) (hmap : MapAt w' Tryz.prog 152 mb s'.seen.length gm') (hget : ∀ m, MaskOK m → gm' (mv m) = if m ∈ s'.seen then some (.int .i64 (s'.seen.idxOf m : Nat)) else none)
  (hrows : RowsAt W1 w' a' c' R') (hkeep : Keeps [B, mb] W1 w') (hmany : R'.length ≤ j + 1) (hlong : ∀ r ∈ R', r.sp.length ≤ j + 1 ∧ ∀ x ∈ r.sp, 0 ≤ x.2 ∧ x.2 ≤ top) :
  SplI ys top W1 w' B mb (j + 1) n' s' R' a' c' gm' := by
 have hnx := cut.next hd hy
 rw [hlv] at hnx
 have hg := nextE_gt (ys := ys) hat
 have hl := nextE_le top ys s.at_
 have h0 := h.at0
 refine ⟨by rw [hst, h.st]; rfl, hrow, hseen, hok, by omega, by omega, cut.le, ?_, ?_, ?_, .inr ?_, ?_, hmask, hmap, hget, hrows, hkeep, hmany, hlong, fun i hi => ?_⟩
 ·by_cases hnn : n < n'
  ·have := h.jn; omega
  ·obtain rfl : n = n' := by omega
   rcases h.here with h1 | h1
   ·omega
   ·by_cases hln : n < ys.length
    ·have h2 := h1 hln
     have h3 := cut.high ys[n] (by rw [List.drop_eq_getElem_cons hln]; exact List.mem_cons_self)
     omega
    ·by_cases hj : j = 0
     ·omega
     ·have h2 := h.fin (by omega) (by have := h.n1; omega)
      omega
 ·intro e he
  have := cut.low e he
  omega
 ·intro e he
  rw [hs', hnx]
  have hl2 : n' < ys.length := by
   rcases Nat.lt_or_ge n' ys.length with h1 | h1
   ·exact h1
   ·rw [List.drop_eq_nil_of_le h1] at he; simp at he
  rw [dif_pos hl2]
  obtain ⟨i, hi, rfl⟩ := List.getElem_of_mem he
  rw [List.getElem_drop]
  exact ends_le hd (by omega) (by simp at hi; omega)
 ·intro hl2
  rw [hs', hnx, dif_pos hl2]
 ·intro _ he
  rw [hs', hnx, dif_neg (by omega)]
 ·by_cases e : i = j
  ·subst e; rw [← h.st]; exact hat
  ·exact h.prev i (by omega)
theorem SplI.known (h : SplI ys top W1 wr B mb j n s R a c gm) (cut : CutAt ys s.at_ n') (hn : n ≤ n') (hd : Desc ekey ys 0 ys.length) (hy : ∀ e ∈ ys, e.1 ≤ top) (hat : s.at_ ≤ top) {lv : Int} (hlv : nextE top ys s.at_ = lv + 1)
  {mk : List Nat} (hmk : mk = maskF (ys.take n') zeroM) (hm : mk ∈ s.seen) {ix : Nat} (hix : ix = s.seen.idxOf mk) (hl : ix < R.length) {b : Option Nat} {cb : Nat}
  (hmask : MaskAt w' B (maskF (ys.take n') zeroM)) (hmap : MapAt w' Tryz.prog 152 mb s.seen.length gm) (hkeep : Keeps [B, mb] W1 w')
  (hrows : RowsAt W1 w' a c (R.set ix ⟨b, cb, addS (R[ix]).sp (s.at_, lv)⟩)) :
  SplI ys top W1 w' B mb (j + 1) n' ⟨lv + 1, s.seen, s.out.set ix (addS (s.out.getD ix []) (s.at_, lv))⟩ (R.set ix ⟨b, cb, addS (R[ix]).sp (s.at_, lv)⟩) a c gm := by
 have hg := nextE_gt (ys := ys) hat
 have hle := nextE_le top ys s.at_
 have h0 := h.at0
 have hro : s.out.getD ix [] = (R[ix]).sp := by rw [← h.row]; simp [List.getD_eq_getElem?_getD, hl]
 refine h.more cut hn hd hy hat hlv ?_ rfl ?_ (by simp [h.seen]) h.ok hmask hmap h.get hrows hkeep (by rw [List.length_set]; have := h.many; omega) ?_
 ·unfold splitStep
  simp only [cut.mask, ← hmk, hm, if_true, hlv, ← hix]
  rw [show lv + 1 - 1 = lv by omega]
 ·rw [List.map_set, h.row, hro]
 ·intro r hr
  rcases List.mem_or_eq_of_mem_set hr with hr | rfl
  ·exact ⟨by have := (h.long r hr).1; omega, (h.long r hr).2⟩
  ·exact addS_long (h.long _ (List.getElem_mem hl)) ⟨by simp only; omega, by simp only; omega⟩
theorem SplI.fresh (h : SplI ys top W1 wr B mb j n s R a c gm) (cut : CutAt ys s.at_ n') (hn : n ≤ n') (hd : Desc ekey ys 0 ys.length) (hy : ∀ e ∈ ys, e.1 ≤ top) (hat : s.at_ ≤ top) {lv : Int} (hlv : nextE top ys s.at_ = lv + 1)
  {mk : List Nat} (hmk : mk = maskF (ys.take n') zeroM) (hm : mk ∉ s.seen) {b : Option Nat} {cb : Nat}
  (hmask : MaskAt w' B (maskF (ys.take n') zeroM)) (hgm : ∀ u, gm' u = @ite _ (u = mv mk) (Classical.propDecidable _) (some (.int .i64 R.length)) (gm u)) (hmap : MapAt w' Tryz.prog 152 mb (s.seen.length + 1) gm') (hkeep : Keeps [B, mb] W1 w')
  (hrows : RowsAt W1 w' a' c' (R ++ [⟨b, cb, addS [] (s.at_, lv)⟩])) :
  SplI ys top W1 w' B mb (j + 1) n' ⟨lv + 1, s.seen ++ [mk], s.out ++ [addS [] (s.at_, lv)]⟩ (R ++ [⟨b, cb, addS [] (s.at_, lv)⟩]) a' c' gm' := by
 have hg := nextE_gt (ys := ys) hat
 have hle := nextE_le top ys s.at_
 have h0 := h.at0
 have hRl : R.length = s.seen.length := by rw [h.seen, ← h.row, List.length_map]
 have hmo : MaskOK mk := by rw [hmk]; exact maskF_ok _ zeroM_ok
 refine h.more cut hn hd hy hat hlv ?_ rfl ?_ (by simp [h.seen]) ?_ hmask (by simpa using hmap) ?_ hrows hkeep (by simp; exact h.many) ?_
 ·unfold splitStep
  simp only [cut.mask, ← hmk, hm, if_false, hlv]
  rw [show lv + 1 - 1 = lv by omega]
 ·rw [List.map_append, h.row]; rfl
 ·intro m hm2
  rw [List.mem_append] at hm2
  rcases hm2 with hm2 | hm2
  ·exact h.ok m hm2
  ·simp at hm2; subst hm2; exact hmo
 ·intro m hmm
  rw [hgm]
  by_cases he : m = mk
  ·subst he
   rw [if_pos rfl, if_pos (by simp), hRl]
   simp [List.idxOf_append, hm]
  ·rw [if_neg (fun hh => he (mv_inj hh)), h.get m hmm]
   by_cases hms : m ∈ s.seen
   ·rw [if_pos hms, if_pos (by simp [hms])]
    simp [List.idxOf_append, hms]
   ·rw [if_neg hms, if_neg (by simp [hms, he])]
 ·intro r hr
  rw [List.mem_append] at hr
  rcases hr with hr | hr
  ·exact ⟨by have := (h.long r hr).1; omega, (h.long r hr).2⟩
  ·simp at hr
   subst hr
   exact addS_long (l := []) (s := (s.at_, lv)) (j := j) ⟨Nat.zero_le _, fun x hx => absurd hx (List.not_mem_nil)⟩ ⟨by show 0 ≤ lv; omega, by show lv ≤ top; omega⟩
end
end Go.Proofs.YtkekenaamnhbhaaGreat
