/- Part 34 of the proof. No condition: every lemma says its own. -/
import Derived.Test.YtphnbmdcgcchaaaDoorEbf
import Derived.Test.YtphnbmdcgcchaaaDoorEbd
namespace Go.Proofs.YtphnbmdcgcchaaaDoor
open Go.RowKit Go.Sort Go.BigFrame
set_option maxRecDepth 100000
set_option maxHeartbeats 16000000
theorem wp_append_any0 {P : Program} {o : Oper} {A : Act} {w : World} {K : Act → World → Prop} {Q : Exit → Act → World → Prop}
  (s x : Operand) (t : TypeId) (hop : o.op = Op.call { callee := Callee.builtin Builtin.append, args := #[s, x], argTypes := #[t, t] })
  (e : TypeId) (i : TypeInfo) (z : Value) (size bytes : Nat) (ht : P.underlying t = some (.slice e)) (hi : P.info? e = some i) (hz : i.zero = some z)
  (hsize : i.size = size) (hby : i.bytes = bytes) (hzs : z.cells.size = size) (hsz : 0 < size)
  (a : Option Nat) (n c : Nat) (xs : List Value) (hs : A.eval s = sv a n c) (hown : SliceAt w e size a n c xs)
  (xa : Option Addr) (m cc : Nat) (news : List Value) (hx : A.eval x = .slice xa m cc) (hl : news.length = m * size) (hnews : 0 < m → ∃ ad, xa = some ad ∧ ∀ j u, news[j]? = some u → w.cell? (ad.add j) = some u) (h1 : ∀ u ∈ news, u.oneCell' = true)
  (hlen : n + m ≤ 140737488355328) (hbytes : (n + m) * bytes ≤ 140737488355328)
  (h : ∀ a' c' w', SliceAt w' e size a' (n + m) c' (xs ++ news) → Keeps a.toList w w' → (a' = a ∨ ∃ g, a' = some g ∧ w.heap.size ≤ g) → K (A.put o.dst (sv a' (n + m) c')) w') :
  Oper.wp P o A w K Q := by
 obtain ⟨a', c', w', hr, h2, h3, h4⟩ := run_append_any (P := P) w t o.type e i z size bytes ht hi hz hsize hby hzs hsz a n c xs hown xa m cc news hl hnews h1 hlen hbytes
 unfold Oper.wp execOp
 simp only [hop, resolve, invoke, builtin, Sem.run_bind, Sem.run_pure, Result.andThen_ok, List.map_toArray, List.map_cons, List.map_nil, hs, hx, hr]
 exact h a' c' w' h2 h3 h4
theorem infoBl : (Tryd.prog.info? 4).map (fun i => (i.zero, i.size, i.bytes)) = some (some (.bool false), 1, 1) := by kernel_rfl
theorem SliceAt.some_pos {w : World} {t : Nat} {a : Option Nat} {n c : Nat} {xs : List Value} {s : Nat} (h : SliceAt w t s a n c xs) (hn : 0 < n) : ∃ g, a = some g := by
 cases a with
 | none => have := h.2.1; omega
 | some g => exact ⟨g, rfl⟩
def BoolsIn (w : World) (a : Option Addr) (l : List Bool) : Prop := 0 < l.length → ∃ b off, a = some ⟨b, off, none⟩ ∧ ∀ i (h : i < l.length), w.cell? ⟨b, off + i, none⟩ = some (.bool l[i])
theorem BoolsIn.keep {w w' : World} {a : Option Addr} {l : List Bool} (h : BoolsIn w a l) (k : Keeps [] w w') : BoolsIn w' a l := fun h0 => by
 obtain ⟨b, off, e, hc⟩ := h h0
 exact ⟨b, off, e, fun i hi => k.cell (hc i hi) (by simp)⟩
theorem SliceAt.boolsIn {w : World} {t : Nat} {a : Option Nat} {c : Nat} {l : List Bool} {n : Nat} (h : SliceAt w t 1 a n c (l.map Value.bool)) (hn : n = l.length) : BoolsIn w (a.map fun g => ⟨g, 0, none⟩) l := fun h0 => by
 obtain ⟨g, rfl⟩ := h.some_pos (by omega)
 refine ⟨g, 0, rfl, fun i hi => ?_⟩
 have h1 := h.cell i (by simpa using hi)
 rw [List.getElem_map] at h1
 rw [Nat.zero_add]
 exact h1
theorem bools_src {w : World} {pa : Option Addr} {xs : List Bool} (h : BoolsIn w pa xs) : 0 < xs.length → ∃ ad, pa = some ad ∧ ∀ j u, (xs.map Value.bool)[j]? = some u → w.cell? (ad.add j) = some u := fun h0 => by
 obtain ⟨b, off, rfl, hc⟩ := h h0
 refine ⟨⟨b, off, none⟩, rfl, fun j u hu => ?_⟩
 rw [List.getElem?_map] at hu
 obtain ⟨x, hx, rfl⟩ := Option.map_eq_some_iff.1 hu
 obtain ⟨hj, hx⟩ := List.getElem?_eq_some_iff.1 hx
 rw [show ((⟨b, off, none⟩ : Addr).add j) = ⟨b, off + j, none⟩ by unfold Addr.add; split <;> simp_all, hc j hj, hx]
structure WS (x : Gr) (w0 : World) (N tb kb kc : Nat) (sl : Nat → Option Nat × Nat) (tx : Nat → List Int) (kn : List Bool) (m : Nat) (wr : World) : Prop where
 kp : Keeps [] w0 wr
 row : wr.heap[tb]? = some (.cells ((List.range N).map fun i => slv (sl i) (tx i).length).toArray 22 (0, 0))
 sls : ∀ i, i < N → SliceAt wr 3 1 (sl i).1 (tx i).length (sl i).2 ((tx i).map (Value.int .i64))
 fr : ∀ i, i < N → ∀ g, (sl i).1 = some g → w0.heap.size ≤ g ∧ g ≠ tb ∧ g ≠ kb
 kns : SliceAt wr 4 1 (some kb) N kc (kn.map Value.bool)
 nw : w0.heap.size ≤ kb ∧ kb ≠ tb ∧ w0.heap.size ≤ tb
 ok : ∀ i, i < N → knB kn i = true → TxOK x i (tx i)
 ln : ∀ i, i < N → (tx i).length ≤ m
 lc : ∀ i, i < N → (tx i).length ≤ cntT kn
variable {x : Gr} {w0 wr w' : World} {N tb kb kc : Nat} {sl : Nat → Option Nat × Nat} {tx : Nat → List Int} {kn : List Bool} {m : Nat}
theorem WS.keep (h : WS x w0 N tb kb kc sl tx kn m wr) (k : Keeps [] wr w') : WS x w0 N tb kb kc sl tx kn m w' :=
 ⟨h.kp.trans k, k.heap h.row (by simp), fun i hi => (h.sls i hi).keep k (by simp), h.fr, h.kns.keep k (by simp), h.nw, h.ok, h.ln, h.lc⟩
theorem WS.more (h : WS x w0 N tb kb kc sl tx kn m wr) {m' : Nat} (hm : m ≤ m') : WS x w0 N tb kb kc sl tx kn m' wr :=
 ⟨h.kp, h.row, h.sls, h.fr, h.kns, h.nw, h.ok, fun i hi => Nat.le_trans (h.ln i hi) hm, h.lc⟩
theorem WS.cell (h : WS x w0 N tb kb kc sl tx kn m wr) {i : Nat} (hi : i < N) : wr.cell? ⟨tb, i, none⟩ = some (.slice ((sl i).1.map fun g => ⟨g, 0, none⟩) (tx i).length (sl i).2) := by
 simp [World.cell?, h.row, hi, slv]
theorem WS.fz (h : WS x w0 N tb kb kc sl tx kn m wr) (i : Nat) : wr.frozen? ⟨tb, i, none⟩ = false := by simp [World.frozen?, h.row]
theorem WS.klen (h : WS x w0 N tb kb kc sl tx kn m wr) : kn.length = N := by have := h.kns.1; simpa using this
theorem WS.kcell (h : WS x w0 N tb kb kc sl tx kn m wr) {i : Nat} (hi : i < N) : wr.cell? ⟨kb, i, none⟩ = some (.bool (knB kn i)) := by
 have hl := h.klen
 have h1 := h.kns.cell i (by simp; omega)
 rw [List.getElem_map] at h1
 rw [h1, knB, List.getD_eq_getElem?_getD, List.getElem?_eq_getElem (by omega)]
 rfl
theorem WS.kfz (h : WS x w0 N tb kb kc sl tx kn m wr) (i : Nat) : wr.frozen? ⟨kb, i, none⟩ = false := h.kns.fz i
def updT (tx : Nat → List Int) (n : Nat) (t : List Int) : Nat → List Int := fun i => if i = n then t else tx i
theorem WS.step (h : WS x w0 N tb kb kc sl tx kn m wr) {n : Nat} (hn : n < N) {t : List Int} (ht : TxOK x n t) (hl : t.length ≤ m + 1) (hkf : knB kn n = false) (hlc : t.length ≤ cntT kn + 1) {w1 w2 : World} (hw1 : w1 = wr.setCell ⟨kb, n, none⟩ (.bool true)) (k2 : Keeps [] w1 w2) {g c : Nat} (hs : SliceAt w2 3 1 (some g) t.length c (t.map (Value.int .i64))) (hg : wr.heap.size ≤ g) :
  WS x w0 N tb kb kc (updL sl n (some g, c)) (updT tx n t) (kn.set n true) (m + 1) (w2.setCell ⟨tb, n, none⟩ (.slice (some ⟨g, 0, none⟩) t.length c)) := by
 obtain ⟨w3, hw3⟩ : ∃ w3, w3 = w2.setCell ⟨tb, n, none⟩ (.slice (some ⟨g, 0, none⟩) t.length c) := ⟨_, rfl⟩
 have k1 : Keeps [kb] wr w1 := by rw [hw1]; exact (Keeps.refl [kb] wr).setCell (by simp) _
 have k3 : Keeps [tb] w2 w3 := by rw [hw3]; exact (Keeps.refl [tb] w2).setCell (by simp) _
 have hnw := h.nw
 have htb := lt_of_block h.row
 have hkb := h.kns.lt
 have hw0 := h.kp.size
 rw [← hw3]
 have hr2 := k2.heap (k1.heap h.row (by simpa using hnw.2.1.symm)) (by simp)
 refine ⟨((h.kp.after k1 (fun q hq => .inr (by simp at hq; omega))).trans k2).after k3 (fun q hq => .inr (by simp at hq; omega)), ?_, fun i hi => ?_, fun i hi q hq => ?_, ?_, hnw, fun i hi hk => ?_, fun i hi => ?_, fun i hi => ?_⟩
 ·rw [hw3, heap_setCell_same _ tb n _ _ _ hr2]
  congr 2
  apply Array.ext
  ·simp
  ·intro i h1 h2
   simp at h1 h2
   by_cases e : n = i
   ·subst e; simp [updL, updT, slv]
   ·simp [e, updL, updT, slv, Ne.symm e]
 ·by_cases e : i = n
  ·subst e
   simp only [updL, updT, if_true]
   exact hs.keep k3 (fun q hq hm => by cases hq; simp at hm; omega)
  ·simp only [updL, updT, if_neg e]
   have hf := h.fr i hi
   exact (((h.sls i hi).keep k1 (fun q hq hm => by simp at hm; exact (hf q hq).2.2 hm)).keep k2 (by simp)).keep k3 (fun q hq hm => by simp at hm; exact (hf q hq).2.1 hm)
 ·by_cases e : i = n
  ·subst e
   simp only [updL, if_true, Option.some.injEq] at hq
   subst hq
   omega
  ·simp only [updL, if_neg e] at hq
   exact h.fr i hi q hq
 ·have h1 := h.kns.set n (.bool true)
  rw [← hw1] at h1
  have h2 := (h1.keep k2 (by simp)).keep k3 (fun q hq hm => by cases hq; simp at hm; exact hnw.2.1 hm)
  rw [List.map_set]
  exact h2
 ·by_cases e : i = n
  ·subst e
   simp only [updT, if_true]
   exact ht
  ·simp only [updT, if_neg e]
   rw [knB_set _ _ _ (by rw [h.klen]; exact hn), if_neg (Ne.symm e)] at hk
   exact h.ok i hi hk
 ·by_cases e : i = n
  ·subst e; simp only [updT, if_true]; exact hl
  ·simp only [updT, if_neg e]; have := h.ln i hi; omega
 ·rw [cnt_set (by rw [h.klen]; exact hn) hkf]
  by_cases e : i = n
  ·subst e; simp only [updT, if_true]; exact hlc
  ·simp only [updT, if_neg e]; have := h.lc i hi; omega
end Go.Proofs.YtphnbmdcgcchaaaDoor
