/- Part 31 of the proof. No condition: every lemma says its own. -/
import Derived.Test.YtphnbmdcgcchaaaDoorEaa
import Derived.Test.YtphnbmdcgcchaaaDoorEbd
import Derived.Test.YtphnbmdcgcchaaaDoorEao
import Derived.Test.YtphnbmdcgcchaaaDoorEam
namespace Go.Proofs.YtphnbmdcgcchaaaDoor
open Go.RowKit Go.Sort Go.BigFrame
set_option maxRecDepth 100000
set_option maxHeartbeats 16000000
section
def BelowE (n : Int) (w : World) (e : Ending) (w' : World) : Prop := ∃ k : Int, 0 ≤ k ∧ k < n ∧ e = .returned (.int .i64 k) ∧ w = w'
theorem pickE_any (ao : Option Addr) (c : Nat) (xs : List Int) (i n : Int) (w : World) (hx : IntsIn w ao xs) (hl : xs.length ≤ 9223372036854775807) (hb : ∀ x ∈ xs, I64 x) (hn : 0 < n) :
  Calls Tryd.prog 14 #[.slice ao xs.length c, .int .i64 i, .int .i64 n] w (BelowE n w) := by
 by_cases h0 : i < 0
 ·go_enter Tryd.func14, Tryd.ntmps14
  go_wp2
  go_ret
  exact ⟨0, by omega, hn, rfl, rfl⟩
 ·by_cases h1 : i < xs.length
  ·obtain ⟨k, rfl⟩ : ∃ k : Nat, i = k := ⟨i.toNat, by omega⟩
   obtain ⟨b, off, rfl, hc⟩ := hx (by omega)
   have hck := hc k (by omega)
   have hk : I64 (xs.getD k 0) := by
    have hm : xs.getD k 0 ∈ xs := by
     rw [List.getD_eq_getElem?_getD, List.getElem?_eq_getElem (by omega), Option.getD_some]; exact List.getElem_mem _
    exact hb _ hm
   generalize xs.getD k 0 = x at *
   have HA := around_any x n
   have hbd := aroundF_bd x n hn
   generalize aroundF x n = q at *
   have HB := Lib.hid hbd
   have HK := Lib.hid hk
   have HN := Lib.hid hn
   have HA := Lib.hid HA
   have hkn : k < xs.length := by omega
   clear hx hc hb hbd hk
   go_enter Tryd.func14, Tryd.ntmps14
   go_wp2_with fail
   refine Calls.mono (HA.out _ HN.out HK.out) ?_
   rintro e w' ⟨rfl, rfl⟩
   go_wp2
   go_ret
   exact ⟨q, HB.out.1, HB.out.2, rfl, rfl⟩
  ·go_enter Tryd.func14, Tryd.ntmps14
   go_wp2
   go_ret
   exact ⟨0, by omega, hn, rfl, rfl⟩
structure SM (Y wr : World) (X : Nat) (vc : Value) (nl fl : List Int) (el : List E4) (a1 : Option Nat) (c1 : Nat) (a2 : Option Nat) (c2 : Nat) (a3 : Option Nat) (c3 : Nat) : Prop where
 kp : Keeps [X] Y wr
 box : wr.heap[X]? = some (.cells #[vc, .slice (a1.map fun g => ⟨g, 0, none⟩) nl.length c1, .slice (a2.map fun g => ⟨g, 0, none⟩) fl.length c2, .slice (a3.map fun g => ⟨g, 0, none⟩) el.length c3] 30 (0, 0))
 s1 : SliceAt wr 3 1 a1 nl.length c1 (nl.map (Value.int .i64))
 s2 : SliceAt wr 3 1 a2 fl.length c2 (fl.map (Value.int .i64))
 s3 : SliceAt wr 47 4 a3 el.length c3 (flatE el)
 n1 : ∀ g, a1 = some g → Y.heap.size ≤ g
 n2 : ∀ g, a2 = some g → Y.heap.size ≤ g
 n3 : ∀ g, a3 = some g → Y.heap.size ≤ g
 d1 : ∀ g, a1 = some g → a2 ≠ some g ∧ a3 ≠ some g
 d2 : ∀ g, a2 = some g → a3 ≠ some g
 lt : X < Y.heap.size
variable {Y wr w' : World} {X : Nat} {vc : Value} {nl fl : List Int} {el : List E4} {a1 : Option Nat} {c1 : Nat} {a2 : Option Nat} {c2 : Nat} {a3 : Option Nat} {c3 : Nat}
theorem SM.keep (h : SM Y wr X vc nl fl el a1 c1 a2 c2 a3 c3) (k : Keeps [] wr w') : SM Y w' X vc nl fl el a1 c1 a2 c2 a3 c3 :=
 ⟨h.kp.trans (k.mono (by simp)), k.heap h.box (by simp), h.s1.keep k (by simp), h.s2.keep k (by simp), h.s3.keep k (by simp), h.n1, h.n2, h.n3, h.d1, h.d2, h.lt⟩
theorem SM.nX (h : SM Y wr X vc nl fl el a1 c1 a2 c2 a3 c3) : X ∉ a1.toList ∧ X ∉ a2.toList ∧ X ∉ a3.toList :=
 ⟨fun hm => by have h1 := h.n1 X (by simpa using hm); have h2 := h.lt; omega, fun hm => by have h1 := h.n2 X (by simpa using hm); have h2 := h.lt; omega, fun hm => by have h1 := h.n3 X (by simpa using hm); have h2 := h.lt; omega⟩
theorem SM.cells (h : SM Y wr X vc nl fl el a1 c1 a2 c2 a3 c3) : wr.cell? ⟨X, 1, none⟩ = some (.slice (a1.map fun g => ⟨g, 0, none⟩) nl.length c1) ∧ wr.cell? ⟨X, 2, none⟩ = some (.slice (a2.map fun g => ⟨g, 0, none⟩) fl.length c2) ∧ wr.cell? ⟨X, 3, none⟩ = some (.slice (a3.map fun g => ⟨g, 0, none⟩) el.length c3) ∧ ∀ i, wr.frozen? ⟨X, i, none⟩ = false :=
 ⟨by simp [World.cell?, h.box], by simp [World.cell?, h.box], by simp [World.cell?, h.box], fun i => by simp [World.frozen?, h.box]⟩
theorem SM.start {vc : Value} (h : Y.heap[X]? = some (.cells #[vc, .slice none 0 0, .slice none 0 0, .slice none 0 0] 30 (0, 0))) : SM Y Y X vc [] [] [] none 0 none 0 none 0 :=
 ⟨Keeps.refl _ _, h, SliceAt.nil _ _ _, SliceAt.nil _ _ _, SliceAt.nil _ _ _, (fun g h => by cases h), (fun g h => by cases h), (fun g h => by cases h), (fun g h => by cases h), (fun g h => by cases h), lt_of_block h⟩
theorem SM.push1 (h : SM Y wr X vc nl fl el a1 c1 a2 c2 a3 c3) {g c' : Nat} {v : Int} (hs : SliceAt w' 3 1 (some g) (nl.length + 1) c' (nl.map (Value.int .i64) ++ [.int .i64 v])) (k : Keeps a1.toList wr w') (hg : a1 = some g ∨ wr.heap.size ≤ g) :
  SM Y (w'.setCell ⟨X, 1, none⟩ (.slice (some ⟨g, 0, none⟩) (nl.length + 1) c')) X vc (nl ++ [v]) fl el (some g) c' a2 c2 a3 c3 := by
 have hgY : Y.heap.size ≤ g := by
  rcases hg with hg | hg
  ·exact h.n1 g hg
  ·have := h.kp.size; omega
 have hX := h.lt
 have hb : w'.heap[X]? = some _ := k.heap h.box (fun hm => by have := h.n1 X (by simpa using hm); omega)
 have k2 : Keeps [X] w' (w'.setCell ⟨X, 1, none⟩ (.slice (some ⟨g, 0, none⟩) (nl.length + 1) c')) := (Keeps.refl [X] w').setCell (by simp) _
 have hd1 := h.d1
 have hd2 := h.d2
 have s2 := (h.s2.keep k (fun q hq hm => by
  have hm : a1 = some q := by simpa using hm
  have e1 := hd1
  have e2 := hd2
  exact (e1 q hm).1 hq)).keep k2 (fun q hq hm => by
  simp only [List.mem_singleton] at hm
  have := h.n2 q hq
  omega)
 have s3 := (h.s3.keep k (fun q hq hm => by
  have hm : a1 = some q := by simpa using hm
  have e1 := hd1
  have e2 := hd2
  exact (e1 q hm).2 hq)).keep k2 (fun q hq hm => by
  simp only [List.mem_singleton] at hm
  have := h.n3 q hq
  omega)
 have hf1 : ∀ j : Option Nat, (∀ q, j = some q → q < wr.heap.size) → (∀ q, j = some q → a1 ≠ some q) → ∀ q, some g = some q → j ≠ some q := fun j h1 h2 q hq hj => by
  cases hq
  rcases hg with hg | hg
  ·exact h2 g hj hg
  ·have := h1 g hj; omega
 have l2 : ∀ q, a2 = some q → q < wr.heap.size := fun q hq => by
  have h1 := h.s2
  rw [hq] at h1
  exact h1.lt
 have l3 : ∀ q, a3 = some q → q < wr.heap.size := fun q hq => by
  have h1 := h.s3
  rw [hq] at h1
  exact h1.lt
 refine ⟨(h.kp.after k (fun q hq => .inr (h.n1 q (by simpa using hq)))).trans k2, ?_, ?_, s2, s3, ?_, h.n2, h.n3, ?_, ?_, hX⟩
 ·rw [heap_setCell_same _ X 1 _ _ _ hb]
  simp
 ·rw [List.length_append, List.length_singleton, List.map_append]
  have h1 := hs.keep k2 (fun q hq hm => by cases hq; simp only [List.mem_singleton] at hm; omega)
  exact h1
 ·exact fun q hq => by cases hq; exact hgY
 ·exact fun q hq => ⟨hf1 a2 l2 (fun q hq h1 => (hd1 q h1).1 hq) q hq, hf1 a3 l3 (fun q hq h1 => (hd1 q h1).2 hq) q hq⟩
 ·exact hd2
theorem SM.push2 (h : SM Y wr X vc nl fl el a1 c1 a2 c2 a3 c3) {g c' : Nat} {v : Int} (hs : SliceAt w' 3 1 (some g) (fl.length + 1) c' (fl.map (Value.int .i64) ++ [.int .i64 v])) (k : Keeps a2.toList wr w') (hg : a2 = some g ∨ wr.heap.size ≤ g) :
  SM Y (w'.setCell ⟨X, 2, none⟩ (.slice (some ⟨g, 0, none⟩) (fl.length + 1) c')) X vc nl (fl ++ [v]) el a1 c1 (some g) c' a3 c3 := by
 have hgY : Y.heap.size ≤ g := by
  rcases hg with hg | hg
  ·exact h.n2 g hg
  ·have := h.kp.size; omega
 have hX := h.lt
 have hb : w'.heap[X]? = some _ := k.heap h.box (fun hm => by have := h.n2 X (by simpa using hm); omega)
 have k2 : Keeps [X] w' (w'.setCell ⟨X, 2, none⟩ (.slice (some ⟨g, 0, none⟩) (fl.length + 1) c')) := (Keeps.refl [X] w').setCell (by simp) _
 have hd1 := h.d1
 have hd2 := h.d2
 have s1 := (h.s1.keep k (fun q hq hm => by
  have hm : a2 = some q := by simpa using hm
  have e1 := hd1
  have e2 := hd2
  exact (e1 q hq).1 hm)).keep k2 (fun q hq hm => by
  simp only [List.mem_singleton] at hm
  have := h.n1 q hq
  omega)
 have s3 := (h.s3.keep k (fun q hq hm => by
  have hm : a2 = some q := by simpa using hm
  have e1 := hd1
  have e2 := hd2
  exact e2 q hm hq)).keep k2 (fun q hq hm => by
  simp only [List.mem_singleton] at hm
  have := h.n3 q hq
  omega)
 have hf2 : ∀ j : Option Nat, (∀ q, j = some q → q < wr.heap.size) → (∀ q, j = some q → a2 ≠ some q) → ∀ q, some g = some q → j ≠ some q := fun j h1 h2 q hq hj => by
  cases hq
  rcases hg with hg | hg
  ·exact h2 g hj hg
  ·have := h1 g hj; omega
 have l1 : ∀ q, a1 = some q → q < wr.heap.size := fun q hq => by
  have h1 := h.s1
  rw [hq] at h1
  exact h1.lt
 have l3 : ∀ q, a3 = some q → q < wr.heap.size := fun q hq => by
  have h1 := h.s3
  rw [hq] at h1
  exact h1.lt
 refine ⟨(h.kp.after k (fun q hq => .inr (h.n2 q (by simpa using hq)))).trans k2, ?_, s1, ?_, s3, h.n1, ?_, h.n3, ?_, ?_, hX⟩
 ·rw [heap_setCell_same _ X 2 _ _ _ hb]
  simp
 ·rw [List.length_append, List.length_singleton, List.map_append]
  have h1 := hs.keep k2 (fun q hq hm => by cases hq; simp only [List.mem_singleton] at hm; omega)
  exact h1
 ·exact fun q hq => by cases hq; exact hgY
 ·exact fun q hq => ⟨fun he => hf2 a1 l1 (fun q hq => (hd1 q hq).1) q he hq, (hd1 q hq).2⟩
 ·exact fun q hq => hf2 a3 l3 (fun q hq h1 => hd2 q h1 hq) q hq
theorem SM.push3 (h : SM Y wr X vc nl fl el a1 c1 a2 c2 a3 c3) {g c' : Nat} {v : E4} (hs : SliceAt w' 47 4 (some g) (el.length + 1) c' (flatE el ++ v.cells)) (k : Keeps a3.toList wr w') (hg : a3 = some g ∨ wr.heap.size ≤ g) :
  SM Y (w'.setCell ⟨X, 3, none⟩ (.slice (some ⟨g, 0, none⟩) (el.length + 1) c')) X vc nl fl (el ++ [v]) a1 c1 a2 c2 (some g) c' := by
 have hgY : Y.heap.size ≤ g := by
  rcases hg with hg | hg
  ·exact h.n3 g hg
  ·have := h.kp.size; omega
 have hX := h.lt
 have hb : w'.heap[X]? = some _ := k.heap h.box (fun hm => by have := h.n3 X (by simpa using hm); omega)
 have k2 : Keeps [X] w' (w'.setCell ⟨X, 3, none⟩ (.slice (some ⟨g, 0, none⟩) (el.length + 1) c')) := (Keeps.refl [X] w').setCell (by simp) _
 have hd1 := h.d1
 have hd2 := h.d2
 have s1 := (h.s1.keep k (fun q hq hm => by
  have hm : a3 = some q := by simpa using hm
  have e1 := hd1
  have e2 := hd2
  exact (e1 q hq).2 hm)).keep k2 (fun q hq hm => by
  simp only [List.mem_singleton] at hm
  have := h.n1 q hq
  omega)
 have s2 := (h.s2.keep k (fun q hq hm => by
  have hm : a3 = some q := by simpa using hm
  have e1 := hd1
  have e2 := hd2
  exact e2 q hq hm)).keep k2 (fun q hq hm => by
  simp only [List.mem_singleton] at hm
  have := h.n2 q hq
  omega)
 have hf3 : ∀ j : Option Nat, (∀ q, j = some q → q < wr.heap.size) → (∀ q, j = some q → a3 ≠ some q) → ∀ q, some g = some q → j ≠ some q := fun j h1 h2 q hq hj => by
  cases hq
  rcases hg with hg | hg
  ·exact h2 g hj hg
  ·have := h1 g hj; omega
 have l1 : ∀ q, a1 = some q → q < wr.heap.size := fun q hq => by
  have h1 := h.s1
  rw [hq] at h1
  exact h1.lt
 have l2 : ∀ q, a2 = some q → q < wr.heap.size := fun q hq => by
  have h1 := h.s2
  rw [hq] at h1
  exact h1.lt
 refine ⟨(h.kp.after k (fun q hq => .inr (h.n3 q (by simpa using hq)))).trans k2, ?_, s1, s2, ?_, h.n1, h.n2, ?_, ?_, ?_, hX⟩
 ·rw [heap_setCell_same _ X 3 _ _ _ hb]
  simp
 ·rw [List.length_append, List.length_singleton, flatE_append]
  have h1 := hs.keep k2 (fun q hq hm => by cases hq; simp only [List.mem_singleton] at hm; omega)
  simpa [flatE] using h1
 ·exact fun q hq => by cases hq; exact hgY
 ·exact fun q hq => ⟨(hd1 q hq).1, fun he => hf3 a1 l1 (fun q hq => (hd1 q hq).2) q he hq⟩
 ·exact fun q hq he => hf3 a2 l2 (fun q hq => hd2 q hq) q he hq
end
structure Ed where
 fr : Nat
 tt : Nat
 cl : Int
 ws : Nat
deriving DecidableEq
def ways (E : List Ed) (n : Nat) : List Int → Nat → Nat
 | w, m => (w.foldl (fun f c m => ((E.filter fun e => e.cl = c ∧ e.tt = m).map fun e => f e.fr * e.ws).sum) (fun m => if m = n then 1 else 0)) m
theorem ways_nil (E : List Ed) (n m : Nat) : ways E n [] m = if m = n then 1 else 0 := rfl
theorem ways_snoc (E : List Ed) (n : Nat) (w : List Int) (c : Int) (m : Nat) : ways E n (w ++ [c]) m = ((E.filter fun e => e.cl = c ∧ e.tt = m).map fun e => ways E n w e.fr * e.ws).sum := by
 simp [ways, List.foldl_append]
theorem le_sum {α : Type} (f : α → Nat) : ∀ {l : List α} {x : α}, x ∈ l → f x ≤ (l.map f).sum
 | y :: l, x, h => by
  rw [List.map_cons, List.sum_cons]
  rcases List.mem_cons.1 h with rfl | h
  ·omega
  ·have := le_sum f h
   omega
theorem le_sum2 {α : Type} (f : α → Nat) : ∀ {l : List α} {x y : α}, x ∈ l → y ∈ l → x ≠ y → f x + f y ≤ (l.map f).sum
 | z :: l, x, y, hx, hy, hne => by
  rw [List.map_cons, List.sum_cons]
  rcases List.mem_cons.1 hx with h1 | hx <;> rcases List.mem_cons.1 hy with h2 | hy
  ·exact absurd (h1.trans h2.symm) hne
  ·have := le_sum f hy; rw [h1]; omega
  ·have := le_sum f hx; rw [h2]; omega
  ·have := le_sum2 f hx hy hne; omega
theorem ways_step {E : List Ed} {n : Nat} {w : List Int} {e : Ed} (he : e ∈ E) : ways E n w e.fr * e.ws ≤ ways E n (w ++ [e.cl]) e.tt := by
 rw [ways_snoc]
 refine le_sum (fun (e : Ed) => ways E n w e.fr * e.ws) ?_
 rw [List.mem_filter]
 exact ⟨he, by simp⟩
theorem ways_step2 {E : List Ed} {n : Nat} {w : List Int} {e f : Ed} (he : e ∈ E) (hf : f ∈ E) (hne : e ≠ f) (hc : f.cl = e.cl) (ht : f.tt = e.tt) : ways E n w e.fr * e.ws + ways E n w f.fr * f.ws ≤ ways E n (w ++ [e.cl]) e.tt := by
 rw [ways_snoc]
 refine le_sum2 (fun (e : Ed) => ways E n w e.fr * e.ws) ?_ ?_ hne
 ·rw [List.mem_filter]; exact ⟨he, by simp⟩
 ·rw [List.mem_filter]; exact ⟨hf, by simp [hc, ht]⟩
theorem sum_mul {α : Type} (f : α → Nat) (k : Nat) : ∀ l : List α, k * (l.map f).sum = (l.map fun x => k * f x).sum
 | [] => rfl
 | x :: l => by rw [List.map_cons, List.sum_cons, Nat.mul_add, sum_mul f k l, List.map_cons, List.sum_cons]
theorem sum_le {α : Type} {f g : α → Nat} : ∀ {l : List α}, (∀ x ∈ l, f x ≤ g x) → (l.map f).sum ≤ (l.map g).sum
 | [], _ => Nat.le_refl _
 | x :: l, h => by
  have h1 := h x (by simp)
  have h2 := sum_le (l := l) fun y hy => h y (by simp [hy])
  rw [List.map_cons, List.sum_cons, List.map_cons, List.sum_cons]
  omega
theorem snoc_ind {P : List Int → Prop} (h0 : P []) (h1 : ∀ w c, P w → P (w ++ [c])) (w : List Int) : P w := by
 have h : ∀ n, ∀ w : List Int, w.length = n → P w := by
  intro n
  induction n with
  | zero => intro w hw; rw [List.length_eq_zero_iff.1 hw]; exact h0
  | succ n ih =>
   intro w hw
   rcases List.eq_nil_or_concat w with rfl | ⟨v, c, rfl⟩
   ·simp at hw
   ·rw [List.concat_eq_append] at hw ⊢
    exact h1 v c (ih v (by simpa using hw))
 exact h _ w rfl
theorem ways_trans (E : List Ed) (n m : Nat) (v : List Int) (w : List Int) : ∀ k, ways E n v m * ways E m w k ≤ ways E n (v ++ w) k := by
 induction w using snoc_ind with
 | h0 =>
  intro k
  rw [ways_nil, List.append_nil]
  split
  ·rename_i h; subst h; omega
  ·omega
 | h1 w c ih =>
  intro k
  rw [← List.append_assoc, ways_snoc, ways_snoc, sum_mul]
  refine sum_le fun e _ => ?_
  rw [← Nat.mul_assoc]
  exact Nat.mul_le_mul_right _ (ih e.fr)
def rep (w : List Int) : Nat → List Int
 | 0 => []
 | k + 1 => rep w k ++ w
theorem ways_rep {E : List Ed} {n : Nat} {w : List Int} {c : Nat} (h : c ≤ ways E n w n) (k : Nat) : c ^ k ≤ ways E n (rep w k) n := by
 induction k with
 | zero => rw [rep, ways_nil, if_pos rfl]; exact Nat.le_refl _
 | succ k ih => rw [rep, Nat.pow_succ]; exact Nat.le_trans (Nat.mul_le_mul ih h) (ways_trans E n n (rep w k) w n)
def PSucc (E : List Ed) (part : Nat → Prop) (s : Nat × Nat × Bool) (c : Int) (t : Nat × Nat × Bool) : Prop :=
 ∃ e ∈ E, ∃ f ∈ E, e.fr = s.1 ∧ f.fr = s.2.1 ∧ e.cl = c ∧ f.cl = c ∧ part e.tt ∧ part f.tt ∧ t = (min e.tt f.tt, max e.tt f.tt, s.2.2 || decide (e ≠ f) || decide (1 < e.ws))
def PGood (E : List Ed) (n : Nat) (w : List Int) (s : Nat × Nat × Bool) : Prop :=
 if s.2.2 = true then (if s.1 = s.2.1 then 2 ≤ ways E n w s.1 else 1 ≤ ways E n w s.1 ∧ 1 ≤ ways E n w s.2.1) else s.1 = s.2.1 ∧ 1 ≤ ways E n w s.1
def EdOK (E : List Ed) : Prop := (∀ e ∈ E, 1 ≤ e.ws) ∧ ∀ e ∈ E, ∀ f ∈ E, e.fr = f.fr → e.tt = f.tt → e.cl = f.cl → e = f
theorem minmax_or (a b : Nat) : (min a b = a ∧ max a b = b) ∨ (min a b = b ∧ max a b = a) := by omega
theorem PGood.swap {E : List Ed} {n : Nat} {w : List Int} {a b : Nat} (h : a = b → 2 ≤ ways E n w a) (h1 : a ≠ b → 1 ≤ ways E n w a) (h2 : a ≠ b → 1 ≤ ways E n w b) : PGood E n w (min a b, max a b, true) := by
 unfold PGood
 rw [if_pos rfl]
 by_cases hab : a = b
 ·subst hab
  rw [Nat.min_self, Nat.max_self, if_pos rfl]
  exact h rfl
 ·rcases minmax_or a b with ⟨e1, e2⟩ | ⟨e1, e2⟩
  ·simp only [e1, e2]; rw [if_neg hab]; exact ⟨h1 hab, h2 hab⟩
  ·simp only [e1, e2]; rw [if_neg (fun e => hab e.symm)]; exact ⟨h2 hab, h1 hab⟩
theorem PGood.step {E : List Ed} (hE : EdOK E) {part : Nat → Prop} {n : Nat} {w : List Int} {s t : Nat × Nat × Bool} {c : Int} (h : PGood E n w s) (k : PSucc E part s c t) : PGood E n (w ++ [c]) t := by
 obtain ⟨e, he, f, hf, h1, h2, rfl, h4, _, _, rfl⟩ := k
 obtain ⟨a, b, d⟩ := s
 simp only at h1 h2
 subst h1
 subst h2
 have we := hE.1 e he
 have wf := hE.1 f hf
 have se := ways_step (n := n) (w := w) he
 have sf := ways_step (n := n) (w := w) hf
 rw [h4] at sf
 have me := Nat.le_mul_of_pos_right (ways E n w e.fr) (show 0 < e.ws by omega)
 have mf := Nat.le_mul_of_pos_right (ways E n w f.fr) (show 0 < f.ws by omega)
 cases d with
 | true =>
  rw [Bool.true_or, Bool.true_or]
  unfold PGood at h
  rw [if_pos rfl] at h
  by_cases hab : e.fr = f.fr
  ·rw [if_pos hab] at h
   have h' : 2 ≤ ways E n w f.fr := by rw [← hab]; exact h
   simp only at h
   exact PGood.swap (fun _ => by omega) (fun _ => by omega) (fun _ => by omega)
  ·rw [if_neg hab] at h
   simp only at h
   refine PGood.swap (fun ht => ?_) (fun _ => by omega) (fun _ => by omega)
   have := ways_step2 (n := n) (w := w) he hf (fun h => hab (by rw [h])) h4 ht.symm
   omega
 | false =>
  unfold PGood at h
  simp only [Bool.false_eq_true, if_false] at h
  obtain ⟨hab, h⟩ := h
  have h' : 1 ≤ ways E n w f.fr := by rw [← hab]; exact h
  by_cases hef : e = f
  ·subst hef
   simp only [Bool.false_or, ne_eq, not_true_eq_false, decide_false, Nat.min_self, Nat.max_self]
   by_cases hw : 1 < e.ws
   ·simp only [hw, decide_true]
    unfold PGood
    rw [if_pos rfl, if_pos rfl]
    have := Nat.mul_le_mul h hw
    simp only
    omega
   ·simp only [hw, decide_false]
    unfold PGood
    simp only [Bool.false_eq_true, if_false]
    exact ⟨trivial, by omega⟩
  ·have hd : (false || decide (e ≠ f) || decide (1 < e.ws)) = true := by simp [hef]
   rw [hd]
   exact PGood.swap (fun ht => absurd (hE.2 e he f hf hab ht h4.symm) hef) (fun _ => by omega) (fun _ => by omega)
theorem double_two {E : List Ed} (hE : EdOK E) {part : Nat → Prop} {n : Nat} {w : List Int} (h : Lead (PSucc E part) (n, n, false) w (n, n, true)) : 2 ≤ ways E n w n := by
 have h1 : ∀ w s, Lead (PSucc E part) (n, n, false) w s → PGood E n w s := by
  intro w s hs
  clear h
  induction hs with
  | nil =>
   unfold PGood
   simp [ways_nil]
  | snoc _ k ih => exact ih.step hE k
 have h2 := h1 _ _ h
 unfold PGood at h2
 rw [if_pos rfl, if_pos rfl] at h2
 exact h2
def cw (cs a : List Int) (e : E4) : List Int := a.set e.tt.toNat (if 1099511627776 / e.ws < cs.getD e.fr.toNat 0 then 1099511627777 else min (a.getD e.tt.toNat 0 + cs.getD e.fr.toNat 0 * e.ws) 1099511627777)
def selC (es : List E4) (c : Int) : List E4 := es.filter fun e => decide (e.cl = c)
def cstep (es : List E4) (c : Int) (cs : List Int) : List Int := (selC es c).foldl (cw cs) (List.replicate cs.length 0)
def clsOf (cls : List Cl) (s : Int) : Int := match cls.findIdx? (fun k => hasB k.sp s) with | some i => i | none => -1
def cloop (es : List E4) (cls : List Cl) : List Int → List Int → List Int
 | [], cs => cs
 | s :: t, cs => if cs.sum = 0 ∨ 1099511627776 < cs.sum then cs else cloop es cls t (cstep es (clsOf cls s) cs)
def edN (e : E4) : Ed := ⟨e.fr.toNat, e.tt.toNat, e.cl, e.ws.toNat⟩
def edNs (es : List E4) : List Ed := es.map edN
def Above (N : Nat) (f : Nat → Nat) (cs : List Int) : Prop := cs.length = N ∧ (∀ v ∈ cs, 0 ≤ v) ∧ ∀ m, m < N → f m ≤ (cs.getD m 0) ∨ 1099511627777 ≤ cs.getD m 0
theorem getD_nonneg {cs : List Int} (h : ∀ v ∈ cs, 0 ≤ v) (m : Nat) : 0 ≤ cs.getD m 0 := by
 rw [List.getD_eq_getElem?_getD]
 cases he : cs[m]? with
 | none => simp
 | some v => exact h v (List.mem_of_getElem? he)
theorem getD_sE (l : List Int) (i : Nat) (v : Int) (m : Nat) (hi : i < l.length) : (l.set i v).getD m 0 = if i = m then v else l.getD m 0 := by
 simp only [List.getD_eq_getElem?_getD, List.getElem?_set]
 split
 ·rename_i h; subst h; first | rfl | (rw [if_pos hi]; rfl)
 ·rfl
theorem Above.cw {N : Nat} {f : Nat → Nat} {F : Nat → Nat} {cs a : List Int} (hc : Above N f cs) (ha : Above N F a) {e : E4} (hf : 0 ≤ e.fr ∧ e.fr < N) (ht : 0 ≤ e.tt ∧ e.tt < N) (hw : 1 ≤ e.ws) :
  Above N (fun m => F m + if e.tt.toNat = m then f e.fr.toNat * e.ws.toNat else 0) (Proofs.YtphnbmdcgcchaaaDoor.cw cs a e) := by
 have hn : e.fr.toNat < N := by omega
 have hm : e.tt.toNat < N := by omega
 obtain ⟨n, hnv⟩ : ∃ n, n = cs.getD e.fr.toNat 0 := ⟨_, rfl⟩
 have hn0 : 0 ≤ n := by rw [hnv]; exact getD_nonneg hc.2.1 _
 have hcn := hc.2.2 e.fr.toNat hn
 rw [← hnv] at hcn
 have ha0 : 0 ≤ a.getD e.tt.toNat 0 := getD_nonneg ha.2.1 _
 have hprod : 0 ≤ n * e.ws := Int.mul_nonneg hn0 (by omega)
 refine ⟨by simp [Proofs.YtphnbmdcgcchaaaDoor.cw, ha.1], fun v hv => ?_, fun m hmN => ?_⟩
 ·unfold Proofs.YtphnbmdcgcchaaaDoor.cw at hv
  rcases List.mem_or_eq_of_mem_set hv with hv | rfl
  ·exact ha.2.1 v hv
  ·rw [← hnv]
   split <;> omega
 ·unfold Proofs.YtphnbmdcgcchaaaDoor.cw
  rw [getD_sE _ _ _ _ (by rw [ha.1]; exact hm), ← hnv]
  simp only
  by_cases hmm : e.tt.toNat = m
  ·subst hmm
   rw [if_pos rfl, if_pos rfl]
   split
   ·right; omega
   ·rename_i hle
    have hle' : n ≤ 1099511627776 / e.ws := by omega
    have hle2 : 1099511627776 / e.ws ≤ 1099511627776 := Int.ediv_le_self _ (by omega)
    have hfn : (f e.fr.toNat : Int) ≤ n := by omega
    have hmul : (f e.fr.toNat : Int) * e.ws ≤ n * e.ws := Int.mul_le_mul_of_nonneg_right hfn (by omega)
    have hws : (e.ws.toNat : Int) = e.ws := Int.toNat_of_nonneg (by omega)
    have hcast : ((F e.tt.toNat + f e.fr.toNat * e.ws.toNat : Nat) : Int) = F e.tt.toNat + (f e.fr.toNat : Int) * e.ws := by
     rw [Int.natCast_add, Int.natCast_mul, hws]
    rw [hcast]
    rcases ha.2.2 e.tt.toNat hm with h | h <;> omega
  ·rw [if_neg hmm, if_neg hmm]
   exact ha.2.2 m hmN
theorem Above.fold {N : Nat} {f : Nat → Nat} {cs : List Int} (hc : Above N f cs) : ∀ {L : List E4} {F : Nat → Nat} {a : List Int}, (∀ e ∈ L, (0 ≤ e.fr ∧ e.fr < N) ∧ (0 ≤ e.tt ∧ e.tt < N) ∧ 1 ≤ e.ws) → Above N F a →
  Above N (fun m => F m + (((L.map edN).filter fun e => decide (e.tt = m)).map fun e => f e.fr * e.ws).sum) (L.foldl (Proofs.YtphnbmdcgcchaaaDoor.cw cs) a)
 | [], F, a, _, ha => by simpa using ha
 | e :: L, F, a, hL, ha => by
  obtain ⟨h1, h2, h3⟩ := hL e (by simp)
  have h := Above.fold hc (L := L) (fun e' h' => hL e' (by simp [h'])) (hc.cw ha h1 h2 h3)
  refine ⟨h.1, h.2.1, fun m hm => ?_⟩
  have h4 := h.2.2 m hm
  simp only at h4 ⊢
  have e1 : F m + ((((e :: L).map edN).filter fun e => decide (e.tt = m)).map fun e => f e.fr * e.ws).sum = F m + (if e.tt.toNat = m then f e.fr.toNat * e.ws.toNat else 0) + (((L.map edN).filter fun e => decide (e.tt = m)).map fun e => f e.fr * e.ws).sum := by
   rw [List.map_cons, List.filter_cons]
   by_cases hc : e.tt.toNat = m
   ·rw [if_pos (by simp [edN, hc]), if_pos hc, List.map_cons, List.sum_cons]
    simp only [edN]
    omega
   ·rw [if_neg (by simp [edN, hc]), if_neg hc]
    omega
  rw [e1]
  exact h4
theorem mem_selC {es : List E4} {c : Int} {e : E4} (h : e ∈ selC es c) : e ∈ es := by
 rw [selC, List.mem_filter] at h
 exact h.1
theorem Above.step {N : Nat} {es : List E4} (he : ∀ e ∈ es, (0 ≤ e.fr ∧ e.fr < N) ∧ (0 ≤ e.tt ∧ e.tt < N) ∧ 1 ≤ e.ws) {n : Nat} {v : List Int} {cs : List Int} (h : Above N (ways (edNs es) n v) cs) (c : Int) : Above N (ways (edNs es) n (v ++ [c])) (cstep es c cs) := by
 have h0 : Above N (fun _ => 0) (List.replicate cs.length (0 : Int)) := ⟨by simp [h.1], fun v hv => by rw [List.eq_of_mem_replicate hv]; exact Int.le_refl 0, fun m hm => .inl (by simp [List.getD_eq_getElem?_getD, h.1, hm])⟩
 have h1 := Above.fold h (L := selC es c) (fun e h' => he e (mem_selC h')) h0
 refine ⟨h1.1, h1.2.1, fun m hm => ?_⟩
 have h2 := h1.2.2 m hm
 have e1 : ways (edNs es) n (v ++ [c]) m = 0 + ((((selC es c).map edN).filter fun e => decide (e.tt = m)).map fun e => ways (edNs es) n v e.fr * e.ws).sum := by
  rw [ways_snoc, Nat.zero_add, edNs, selC]
  congr 1
  congr 1
  rw [List.filter_map, List.filter_map, List.filter_filter]
  congr 1
  refine List.filter_congr fun e _ => ?_
  simp only [edN, Function.comp]
  by_cases q1 : e.cl = c <;> by_cases q2 : e.tt.toNat = m <;> simp [q1, q2]
 rw [e1]
 exact h2
theorem ways_zero {E : List Ed} {n : Nat} {v : List Int} (h : ∀ m, ways E n v m = 0) (w : List Int) : ∀ m, ways E n (v ++ w) m = 0 := by
 induction w using snoc_ind with
 | h0 => simpa using h
 | h1 w c ih =>
  intro m
  rw [← List.append_assoc, ways_snoc]
  refine Nat.eq_zero_of_le_zero ?_
  have := sum_le (l := E.filter fun e => decide (e.cl = c ∧ e.tt = m)) (f := fun e => ways E n (v ++ w) e.fr * e.ws) (g := fun _ => 0) (fun x _ => by simp [ih])
  refine Nat.le_trans this ?_
  generalize (E.filter fun e => decide (e.cl = c ∧ e.tt = m)) = l
  induction l with
  | nil => simp
  | cons x l ih => simpa using ih
theorem ways_out {E : List Ed} {N n : Nat} (hE : ∀ e ∈ E, e.tt < N) (hn : n < N) (w : List Int) : ∀ m, N ≤ m → ways E n w m = 0 := by
 intro m hm
 induction w using snoc_ind with
 | h0 => rw [ways_nil, if_neg (by omega)]
 | h1 w c _ =>
  rw [ways_snoc, List.filter_eq_nil_iff.2]
  ·simp
  ·intro e he
   have := hE e he
   simp
   omega
theorem sum_nonneg : ∀ {l : List Int}, (∀ v ∈ l, 0 ≤ v) → 0 ≤ l.sum ∧ ∀ v ∈ l, v ≤ l.sum
 | [], _ => by simp
 | a :: l, h => by
  have h1 := sum_nonneg (l := l) fun v hv => h v (by simp [hv])
  have ha := h a (by simp)
  rw [List.sum_cons]
  refine ⟨by omega, fun v hv => ?_⟩
  rcases List.mem_cons.1 hv with rfl | hv
  ·omega
  ·have := h1.2 v hv
   omega
theorem getD_le_sum {l : List Int} (h : ∀ v ∈ l, 0 ≤ v) (m : Nat) : l.getD m 0 ≤ l.sum := by
 rw [List.getD_eq_getElem?_getD]
 cases he : l[m]? with
 | none => simpa using (sum_nonneg h).1
 | some v => exact (sum_nonneg h).2 v (List.mem_of_getElem? he)
theorem cloop_ge {N : Nat} {es : List E4} {cls : List Cl} (he : ∀ e ∈ es, (0 ≤ e.fr ∧ e.fr < N) ∧ (0 ≤ e.tt ∧ e.tt < N) ∧ 1 ≤ e.ws) {n : Nat} (hn : n < N) : ∀ {text : List Int} {v cs : List Int}, Above N (ways (edNs es) n v) cs →
  1099511627776 < (cloop es cls text cs).sum ∨ Above N (ways (edNs es) n (v ++ text.map (clsOf cls))) (cloop es cls text cs) ∨ ∀ m, ways (edNs es) n (v ++ text.map (clsOf cls)) m = 0
 | [], v, cs, h => by
  right; left
  simpa [cloop] using h
 | s :: t, v, cs, h => by
  unfold cloop
  split
  ·rename_i hs
   rcases hs with hs | hs
   ·right; right
    refine ways_zero (fun m => ?_) _
    rcases Nat.lt_or_ge m N with hm | hm
    ·have h1 := h.2.2 m hm
     have h2 := getD_le_sum h.2.1 m
     omega
    ·exact ways_out (fun e h' => by
      obtain ⟨e', h1, rfl⟩ := List.mem_map.1 h'
      have := he e' h1
      simp only [edN]
      omega) hn _ m hm
   ·exact .inl hs
  ·have h1 := cloop_ge he hn (cls := cls) (text := t) (h.step he (clsOf cls s))
   rw [List.append_assoc] at h1
   simpa using h1
def countV (x : Gr) (text : List Int) : Int × Int := if 1099511627776 < (cloop x.edges x.cls text x.first).sum then (0, 4) else ((cloop x.edges x.cls text x.first).sum, 0)
theorem count_ge {x : Gr} (ok : GrOK x) {n i : Nat} (hn : n < x.nodes.length) (hi : i < x.nodes.length) (h0 : 1 ≤ x.first.getD n 0) (text : List Int) {k : Nat} (hk : k ≤ ways (edNs x.edges) n (text.map (clsOf x.cls)) i) (hk0 : 1 ≤ k) :
  (countV x text).2 = 4 ∨ ((countV x text).2 = 0 ∧ (k : Int) ≤ (countV x text).1) := by
 have he : ∀ e ∈ x.edges, (0 ≤ e.fr ∧ e.fr < x.nodes.length) ∧ (0 ≤ e.tt ∧ e.tt < x.nodes.length) ∧ 1 ≤ e.ws := fun e h => ⟨(ok.ed e h).1, (ok.ed e h).2.1, (ok.ed e h).2.2.2.1⟩
 have hs : Above x.nodes.length (ways (edNs x.edges) n []) x.first := by
  refine ⟨ok.lf, fun v hv => (ok.first v hv).1, fun m hm => ?_⟩
  left
  rw [ways_nil]
  split
  ·rename_i h; subst h; simpa using h0
  ·exact getD_nonneg (fun v hv => (ok.first v hv).1) m
 have h1 := cloop_ge he hn (cls := x.cls) (text := text) hs
 rw [List.nil_append] at h1
 unfold countV
 by_cases hM : 1099511627776 < (cloop x.edges x.cls text x.first).sum
 ·rw [if_pos hM]; exact .inl rfl
 ·rw [if_neg hM]
  right
  refine ⟨rfl, ?_⟩
  rcases h1 with h1 | h1 | h1
  ·exact absurd h1 hM
  ·have h2 := h1.2.2 i hi
   have h3 := getD_le_sum h1.2.1 i
   simp only
   omega
  ·have := h1 i
   omega
theorem dsucc_psucc {es : List E4} {part N : Nat} (he : ∀ e ∈ es, (0 ≤ e.fr ∧ e.fr < N) ∧ (0 ≤ e.tt ∧ e.tt < N) ∧ 1 ≤ e.ws) {s t : Tri} {c : Int} (h : DSucc es part s c t) (hs : 0 ≤ s.1 ∧ 0 ≤ s.2.1 ∧ (s.2.2 = 0 ∨ s.2.2 = 1)) :
  PSucc (edNs es) (fun m => part.testBit m = true) (s.1.toNat, s.2.1.toNat, decide (s.2.2 = 1)) c (t.1.toNat, t.2.1.toNat, decide (t.2.2 = 1)) ∧ (0 ≤ t.1 ∧ 0 ≤ t.2.1 ∧ (t.2.2 = 0 ∨ t.2.2 = 1)) := by
 obtain ⟨e, h1, f, h2, h3, h4, h5, h6, h7, h8, rfl⟩ := h
 obtain ⟨a1, a2, a3⟩ := he e h1
 obtain ⟨b1, b2, b3⟩ := he f h2
 have hinj : (edN e = edN f) ↔ e = f := by
  constructor
  ·intro h
   cases e; cases f
   simp only [edN, Ed.mk.injEq] at h
   simp only at a1 a2 a3 b1 b2 b3
   simp only [E4.mk.injEq]
   omega
  ·rintro rfl; rfl
 refine ⟨⟨edN e, List.mem_map_of_mem h1, edN f, List.mem_map_of_mem h2, ?_, ?_, h5, h6, h7, h8, ?_⟩, ?_⟩
 ·simp only [edN, h3]
 ·simp only [edN, h4]
 ·simp only [dTo, edN, Prod.mk.injEq]
  refine ⟨by omega, by omega, ?_⟩
  have hw : (1 < e.ws.toNat) ↔ 1 < e.ws := by omega
  have hinj' : ((⟨e.fr.toNat, e.tt.toNat, e.cl, e.ws.toNat⟩ : Ed) = ⟨f.fr.toNat, f.tt.toNat, f.cl, f.ws.toNat⟩) ↔ e = f := hinj
  simp only [ne_eq, hinj', hw]
  by_cases q1 : e = f
  ·subst q1
   by_cases q2 : 1 < e.ws
   ·have q3 : ¬ e.ws ≤ 1 := by omega
    simp [q2]
   ·simp [q2]
  ·simp [q1]
 ·simp only [dTo]
  refine ⟨by omega, by omega, ?_⟩
  split
  ·exact .inr rfl
  ·exact hs.2.2
theorem lead_psucc {es : List E4} {part N : Nat} (he : ∀ e ∈ es, (0 ≤ e.fr ∧ e.fr < N) ∧ (0 ≤ e.tt ∧ e.tt < N) ∧ 1 ≤ e.ws) {s t : Tri} {v : List Int} (h : Lead (DSucc es part) s v t) (hs : 0 ≤ s.1 ∧ 0 ≤ s.2.1 ∧ (s.2.2 = 0 ∨ s.2.2 = 1)) :
  Lead (PSucc (edNs es) (fun m => part.testBit m = true)) (s.1.toNat, s.2.1.toNat, decide (s.2.2 = 1)) v (t.1.toNat, t.2.1.toNat, decide (t.2.2 = 1)) ∧ (0 ≤ t.1 ∧ 0 ≤ t.2.1 ∧ (t.2.2 = 0 ∨ t.2.2 = 1)) := by
 induction h with
 | nil => exact ⟨.nil, hs⟩
 | snoc _ k ih =>
  obtain ⟨h1, h2⟩ := dsucc_psucc he k ih.2
  exact ⟨.snoc ih.1 h1, h2⟩
theorem cmpE_lt (a b : E4) : cmpE a b < 0 ↔ a.fr < b.fr ∨ a.fr = b.fr ∧ (a.tt < b.tt ∨ a.tt = b.tt ∧ a.cl < b.cl) := by
 unfold cmpE orI cmpI
 split <;> (repeat' split) <;> omega
theorem ord_all {l : List E4} (h : ∀ i (h : i + 1 < l.length), cmpE l[i] l[i + 1] < 0) : ∀ j i (hi : i < j) (hj : j < l.length), cmpE (l[i]'(by omega)) l[j] < 0
 | 0, _, hi, _ => by omega
 | j + 1, i, hi, hj => by
  have h1 := h j hj
  rcases Nat.lt_or_ge i j with h2 | h2
  ·have h3 := ord_all h j i h2 (by omega)
   rw [cmpE_lt] at *
   omega
  ·obtain rfl : i = j := by omega
   exact h1
theorem edNs_ok {x : Gr} (ok : GrOK x) : EdOK (edNs x.edges) := by
 refine ⟨fun e he => ?_, fun e he f hf h1 h2 h3 => ?_⟩
 ·obtain ⟨e', h1, rfl⟩ := List.mem_map.1 he
  have := (ok.ed e' h1).2.2.2.1
  simp only [edN]
  omega
 ·obtain ⟨e', h4, rfl⟩ := List.mem_map.1 he
  obtain ⟨f', h5, rfl⟩ := List.mem_map.1 hf
  obtain ⟨a1, a2, a3, a4, _⟩ := ok.ed e' h4
  obtain ⟨b1, b2, b3, b4, _⟩ := ok.ed f' h5
  obtain ⟨i, hi, rfl⟩ := List.getElem_of_mem h4
  obtain ⟨j, hj, rfl⟩ := List.getElem_of_mem h5
  simp only [edN] at h1 h2 h3
  rcases Nat.lt_trichotomy i j with h | rfl | h
  ·have h6 := ord_all ok.ord j i h hj
   rw [cmpE_lt] at h6
   omega
  ·rfl
  ·have h6 := ord_all ok.ord i j h hi
   rw [cmpE_lt] at h6
   omega
theorem dbl_ways {x : Gr} (ok : GrOK x) {part n : Nat} {v : List Int} (h : Lead (DSucc x.edges part) ((n : Int), (n : Int), 0) v ((n : Int), (n : Int), 1)) : 2 ≤ ways (edNs x.edges) n v n := by
 have he : ∀ e ∈ x.edges, (0 ≤ e.fr ∧ e.fr < x.nodes.length) ∧ (0 ≤ e.tt ∧ e.tt < x.nodes.length) ∧ 1 ≤ e.ws := fun e h => ⟨(ok.ed e h).1, (ok.ed e h).2.1, (ok.ed e h).2.2.2.1⟩
 have h1 := (lead_psucc he h (by simp)).1
 simp only [Int.toNat_natCast] at h1
 exact double_two (edNs_ok ok) h1
end Go.Proofs.YtphnbmdcgcchaaaDoor
