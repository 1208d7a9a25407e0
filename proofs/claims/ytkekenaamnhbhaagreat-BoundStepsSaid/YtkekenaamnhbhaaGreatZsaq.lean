/- Part 17 of the proof. No condition: every lemma says its own. -/
import Derived.Lib.Hide
import Derived.Test.YtkekenaamnhbhaaGreatZsap
import Derived.Test.YtkekenaamnhbhaaGreatZsam
namespace Go.Proofs.YtkekenaamnhbhaaGreat
open Go.RowKit Go.Sort Go.BigFrame
set_option maxRecDepth 100000
set_option maxHeartbeats 16000000
def lexL : List Int → List Int → Prop
 | a :: x, b :: y => a < b ∨ a = b ∧ lexL x y
 | _, _ => False
def Sh (a b : List Int) : Prop := a.length < b.length ∨ a.length = b.length ∧ lexL a b
theorem lexL.irrefl : ∀ a : List Int, ¬ lexL a a
 | [], h => h
 | a :: x, h => by rcases h with h | ⟨_, h⟩; exact absurd h (by omega); exact lexL.irrefl x h
theorem lexL.trans : ∀ {a b c : List Int}, lexL a b → lexL b c → lexL a c
 | a :: x, b :: y, c :: z, h, k => by
  rcases h with h | ⟨rfl, h⟩ <;> rcases k with k | ⟨rfl, k⟩
  ·exact .inl (by omega)
  ·exact .inl h
  ·exact .inl k
  ·exact .inr ⟨rfl, h.trans k⟩
theorem lexL.total : ∀ {a b : List Int}, a.length = b.length → lexL a b ∨ a = b ∨ lexL b a
 | [], [], _ => .inr (.inl rfl)
 | a :: x, b :: y, h => by
  rcases Int.lt_trichotomy a b with k | rfl | k
  ·exact .inl (.inl k)
  ·rcases lexL.total (show x.length = y.length by simpa using h) with k | rfl | k
   ·exact .inl (.inr ⟨rfl, k⟩)
   ·exact .inr (.inl rfl)
   ·exact .inr (.inr (.inr ⟨rfl, k⟩))
  ·exact .inr (.inr (.inl k))
theorem lexL.snoc : ∀ {a b : List Int} {c d : Int}, a.length = b.length → (lexL (a ++ [c]) (b ++ [d]) ↔ lexL a b ∨ a = b ∧ c < d)
 | [], [], c, d, _ => by simp [lexL]
 | a :: x, b :: y, c, d, hl => by
  simp only [List.cons_append, lexL, lexL.snoc (show x.length = y.length by simpa using hl), List.cons.injEq]
  clear hl
  constructor
  ·rintro (h | ⟨rfl, h | ⟨rfl, h⟩⟩)
   ·exact .inl (.inl h)
   ·exact .inl (.inr ⟨rfl, h⟩)
   ·exact .inr ⟨⟨rfl, rfl⟩, h⟩
  ·rintro ((h | ⟨rfl, h⟩) | ⟨⟨rfl, rfl⟩, h⟩)
   ·exact .inl h
   ·exact .inr ⟨rfl, .inl h⟩
   ·exact .inr ⟨rfl, .inr ⟨rfl, h⟩⟩
theorem Sh.irrefl (a : List Int) : ¬ Sh a a := fun h => by rcases h with h | ⟨_, h⟩; omega; exact lexL.irrefl a h
theorem Sh.trans {a b c : List Int} (h : Sh a b) (k : Sh b c) : Sh a c := by
 rcases h with h | ⟨e, h⟩ <;> rcases k with k | ⟨f, k⟩
 ·exact .inl (by omega)
 ·exact .inl (by omega)
 ·exact .inl (by omega)
 ·exact .inr ⟨by omega, h.trans k⟩
theorem Sh.total (a b : List Int) : Sh a b ∨ a = b ∨ Sh b a := by
 rcases Nat.lt_trichotomy a.length b.length with h | h | h
 ·exact .inl (.inl h)
 ·rcases lexL.total h with k | k | k
  ·exact .inl (.inr ⟨h, k⟩)
  ·exact .inr (.inl k)
  ·exact .inr (.inr (.inr ⟨h.symm, k⟩))
 ·exact .inr (.inr (.inl h))
theorem Sh.snoc {a b : List Int} {c d : Int} : Sh (a ++ [c]) (b ++ [d]) ↔ Sh a b ∨ a = b ∧ c < d := by
 simp only [Sh, List.length_append, List.length_cons, List.length_nil]
 constructor
 ·rintro (h | ⟨e, h⟩)
  ·exact .inl (.inl (by omega))
  ·rcases (lexL.snoc (show a.length = b.length by omega)).1 h with k | k
   ·exact .inl (.inr ⟨by omega, k⟩)
   ·exact .inr k
 ·rintro ((h | ⟨e, h⟩) | ⟨rfl, h⟩)
  ·exact .inl (by omega)
  ·exact .inr ⟨by omega, (lexL.snoc e).2 (.inl h)⟩
  ·exact .inr ⟨rfl, (lexL.snoc rfl).2 (.inr ⟨rfl, h⟩)⟩
theorem Sh.grow (a : List Int) (c : Int) : Sh a (a ++ [c]) := .inl (by simp)
inductive Lead {α : Type} (succ : α → Int → α → Prop) (s : α) : List Int → α → Prop
 | nil : Lead succ s [] s
 | snoc {w t c u} : Lead succ s w t → succ t c u → Lead succ s (w ++ [c]) u
theorem Lead.cons {α : Type} {succ : α → Int → α → Prop} {s t u : α} {c : Int} {w : List Int} (h : succ s c t) (k : Lead succ t w u) : Lead succ s (c :: w) u := by
 induction k with
 | nil => exact Lead.snoc (w := []) .nil h
 | snoc _ k ih => rw [← List.cons_append]; exact .snoc ih k
theorem Lead.trans {α : Type} {succ : α → Int → α → Prop} {s t u : α} {v w : List Int} (h : Lead succ s v t) (k : Lead succ t w u) : Lead succ s (v ++ w) u := by
 induction k with
 | nil => rw [List.append_nil]; exact h
 | snoc _ k ih => rw [← List.append_assoc]; exact .snoc ih k
theorem Lead.nil_inv {α : Type} {succ : α → Int → α → Prop} {s t : α} (h : Lead succ s [] t) : t = s := by
 generalize he : ([] : List Int) = w at h
 cases h with
 | nil => rfl
 | snoc _ _ => simp at he
theorem Lead.snoc_inv {α : Type} {succ : α → Int → α → Prop} {s u : α} {w : List Int} {c : Int} (h : Lead succ s (w ++ [c]) u) : ∃ t, Lead succ s w t ∧ succ t c u := by
 generalize he : w ++ [c] = v at h
 cases h with
 | nil => simp at he
 | snoc h k =>
  obtain ⟨h1, h2⟩ := List.append_inj' he rfl
  simp only [List.cons.injEq, and_true] at h2
  subst h1
  subst h2
  exact ⟨_, h, k⟩
def Least {α : Type} (succ : α → Int → α → Prop) (s : α) (w : List Int) (t : α) : Prop := Lead succ s w t ∧ ∀ v, Lead succ s v t → v = w ∨ Sh w v
theorem Least.uniq {α : Type} {succ : α → Int → α → Prop} {s t : α} {v w : List Int} (h : Least succ s v t) (k : Least succ s w t) : v = w := by
 rcases h.2 w k.1 with e | e
 ·exact e.symm
 ·rcases k.2 v h.1 with f | f
  ·exact f
  ·exact absurd (e.trans f) (Sh.irrefl _)
structure Grp (α : Type) where
 sts : List α
 bef : Int
 cls : Int
 word : List Int
def Grp.none {α : Type} : Grp α := ⟨[], 0, 0, []⟩
def wd {α : Type} (gs : List (Grp α)) (k : Nat) : List Int := (gs.getD k .none).word
def sts {α : Type} (gs : List (Grp α)) (k : Nat) : List α := (gs.getD k .none).sts
structure Bfs {α : Type} (succ : α → Int → α → Prop) (start : α) (gs : List (Grp α)) (i : Nat) : Prop where
 pos : 0 < gs.length
 head : gs.getD 0 .none = ⟨[start], -1, 0, []⟩
 link : ∀ k, 0 < k → k < gs.length → ∃ b : Nat, (gs.getD k .none).bef = b ∧ b < k ∧ b < i ∧ wd gs k = wd gs b ++ [(gs.getD k .none).cls]
 sorted : ∀ j k, j < k → k < gs.length → Sh (wd gs j) (wd gs k)
 leads : ∀ k, k < gs.length → ∀ s ∈ sts gs k, Lead succ start (wd gs k) s
 done : ∀ j, j < i → j < gs.length → ∀ p ∈ sts gs j, ∀ c u, succ p c u → ∃ k, k < gs.length ∧ u ∈ sts gs k ∧ (wd gs k = wd gs j ++ [c] ∨ Sh (wd gs k) (wd gs j ++ [c]))
theorem Bfs.wd0 {α : Type} {succ : α → Int → α → Prop} {start : α} {gs : List (Grp α)} {i : Nat} (h : Bfs succ start gs i) : wd gs 0 = [] := by rw [wd, h.head]
theorem Bfs.sts0 {α : Type} {succ : α → Int → α → Prop} {start : α} {gs : List (Grp α)} {i : Nat} (h : Bfs succ start gs i) : sts gs 0 = [start] := by rw [sts, h.head]
theorem Bfs.le {α : Type} {succ : α → Int → α → Prop} {start : α} {gs : List (Grp α)} {i j k : Nat} (h : Bfs succ start gs i) (he : wd gs k = wd gs j ∨ Sh (wd gs k) (wd gs j)) : k ≤ j ∨ gs.length ≤ k := by
 rcases Nat.lt_or_ge j k with hjk | hjk
 ·right
  rcases Nat.lt_or_ge k gs.length with hk | hk
  ·have h1 := h.sorted j k hjk hk
   rcases he with e | e
   ·rw [e] at h1; exact absurd h1 (Sh.irrefl _)
   ·exact absurd (h1.trans e) (Sh.irrefl _)
  ·exact hk
 ·exact .inl hjk
theorem Bfs.known {α : Type} {succ : α → Int → α → Prop} {start : α} {gs : List (Grp α)} {i : Nat} (h : Bfs succ start gs i) {m : Nat} (hm : m ≤ i) {v : List Int} {u : α} (k : Lead succ start v u) :
  (v = wd gs m ∨ Sh v (wd gs m)) → ∃ j, j < gs.length ∧ u ∈ sts gs j ∧ (wd gs j = v ∨ Sh (wd gs j) v) := by
 induction k with
 | nil => intro _; exact ⟨0, h.pos, by rw [h.sts0]; simp, .inl h.wd0⟩
 | @snoc v p c u hp hs ih =>
  intro hv
  have hv0 : Sh v (wd gs m) := by
   rcases hv with e | e
   ·rw [← e]; exact Sh.grow _ _
   ·exact (Sh.grow _ _).trans e
  obtain ⟨j, hj, hpj, hw⟩ := ih (.inr hv0)
  have hjm : Sh (wd gs j) (wd gs m) := by
   rcases hw with e | e
   ·rw [e]; exact hv0
   ·exact e.trans hv0
  have hlt : j < m := by
   rcases Nat.lt_or_ge j m with a | a
   ·exact a
   ·rcases Nat.lt_or_eq_of_le a with a | a
    ·exact absurd ((h.sorted m j a hj).trans hjm) (Sh.irrefl _)
    ·rw [a] at hjm; exact absurd hjm (Sh.irrefl _)
  obtain ⟨k, hk, huk, hwk⟩ := h.done j (by omega) hj p hpj c u hs
  refine ⟨k, hk, huk, ?_⟩
  have h2 : wd gs j ++ [c] = v ++ [c] ∨ Sh (wd gs j ++ [c]) (v ++ [c]) := by
   rcases hw with e | e
   ·rw [e]; exact .inl rfl
   ·exact .inr (Sh.snoc.2 (.inl e))
  rcases hwk with e | e <;> rcases h2 with f | f
  ·exact .inl (e.trans f)
  ·rw [e]; exact .inr f
  ·rw [← f]; exact .inr e
  ·exact .inr (e.trans f)
theorem Bfs.least {α : Type} {succ : α → Int → α → Prop} {start : α} {gs : List (Grp α)} {i : Nat} (h : Bfs succ start gs i) (hi : i < gs.length) {t : α} {c : Int} (hp : ∃ p ∈ sts gs i, succ p c t) (hm : ∀ p ∈ sts gs i, ∀ d, succ p d t → c ≤ d)
  (hn : ∀ k, k < gs.length → t ∉ sts gs k) : Least succ start (wd gs i ++ [c]) t := by
 obtain ⟨p, hp, hs⟩ := hp
 refine ⟨.snoc (h.leads i hi p hp) hs, fun v hv => ?_⟩
 rcases Sh.total v (wd gs i ++ [c]) with hlt | e | e
 ·exfalso
  rcases List.eq_nil_or_concat v with rfl | ⟨v0, d, rfl⟩
  ·have := hv.nil_inv
   subst this
   exact hn 0 h.pos (by rw [h.sts0]; simp)
  ·rw [List.concat_eq_append] at hv hlt
   obtain ⟨p', hp', hs'⟩ := hv.snoc_inv
   have hle : v0 = wd gs i ∨ Sh v0 (wd gs i) := by
    rcases Sh.snoc.1 hlt with e | ⟨e, _⟩
    ·exact .inr e
    ·exact .inl e
   obtain ⟨k, hk, hpk, hwk⟩ := h.known (Nat.le_refl i) hp' hle
   have hki : wd gs k = wd gs i ∨ Sh (wd gs k) (wd gs i) := by
    rcases hwk with e | e <;> rcases hle with f | f
    ·exact .inl (e.trans f)
    ·rw [e]; exact .inr f
    ·rw [← f]; exact .inr e
    ·exact .inr (e.trans f)
   rcases h.le hki with hki' | hki'
   ·rcases Nat.lt_or_eq_of_le hki' with a | rfl
    ·obtain ⟨k', hk', ht, _⟩ := h.done k a hk p' hpk d t hs'
     exact hn k' hk' ht
    ·have hv0 : v0 = wd gs k := by
      rcases hle with e | e
      ·exact e
      ·rcases hwk with f | f
       ·rw [f] at e; exact absurd e (Sh.irrefl _)
       ·exact absurd (e.trans f) (Sh.irrefl _)
     rcases Sh.snoc.1 hlt with e | ⟨_, e⟩
     ·rw [hv0] at e; exact absurd e (Sh.irrefl _)
     ·have := hm p' hpk d hs'; omega
   ·omega
 ·exact .inl e
 ·exact .inr e
theorem Bfs.all {α : Type} {succ : α → Int → α → Prop} {start : α} {gs : List (Grp α)} {i : Nat} (h : Bfs succ start gs i) (hi : gs.length ≤ i) {v : List Int} {u : α} (k : Lead succ start v u) : ∃ j, j < gs.length ∧ u ∈ sts gs j := by
 induction k with
 | nil => exact ⟨0, h.pos, by rw [h.sts0]; simp⟩
 | snoc _ hs ih =>
  obtain ⟨j, hj, hp⟩ := ih
  obtain ⟨k, hk, hu, _⟩ := h.done j (by omega) hj _ hp _ _ hs
  exact ⟨k, hk, hu⟩
theorem Bfs.start {α : Type} (succ : α → Int → α → Prop) (s : α) : Bfs succ s [⟨[s], -1, 0, []⟩] 0 where
 pos := by simp
 head := rfl
 link := fun k h1 h2 => by simp at h2; omega
 sorted := fun j k h1 h2 => by simp at h2; omega
 leads := fun k hk t ht => by
  obtain rfl : k = 0 := by simpa using hk
  have ht : t ∈ [s] := ht
  simp at ht
  subst ht
  exact .nil
 done := fun j h => by omega
def pushG {α : Type} (n : Nat) (i : Nat) (gs : List (Grp α)) (x : α × Int) : List (Grp α) :=
 match gs.getLast? with
 | some g => if n < gs.length ∧ g.cls = x.2 then gs.dropLast ++ [{ g with sts := g.sts ++ [x.1] }] else gs ++ [⟨[x.1], i, x.2, wd gs i ++ [x.2]⟩]
 | none => gs ++ [⟨[x.1], i, x.2, wd gs i ++ [x.2]⟩]
structure Mid {α : Type} (gs : List (Grp α)) (i : Nat) (gs' : List (Grp α)) (D : List (α × Int)) : Prop where
 len : gs.length ≤ gs'.length
 old : ∀ k, k < gs.length → gs'.getD k .none = gs.getD k .none
 new : ∀ k, gs.length ≤ k → k < gs'.length → (gs'.getD k .none).bef = i ∧ (gs'.getD k .none).word = wd gs i ++ [(gs'.getD k .none).cls]
 inc : ∀ j k, gs.length ≤ j → j < k → k < gs'.length → (gs'.getD j .none).cls < (gs'.getD k .none).cls
 mem : ∀ k, gs.length ≤ k → k < gs'.length → ∀ s, s ∈ sts gs' k ↔ (s, (gs'.getD k .none).cls) ∈ D
 all : ∀ x ∈ D, ∃ k, gs.length ≤ k ∧ k < gs'.length ∧ (gs'.getD k .none).cls = x.2
 ne : ∀ k, gs.length ≤ k → k < gs'.length → ∃ s, s ∈ sts gs' k
theorem Mid.start {α : Type} (gs : List (Grp α)) (i : Nat) : Mid gs i gs [] where
 len := Nat.le_refl _
 old := fun _ _ => rfl
 new := fun k h1 h2 => by omega
 inc := fun j k h1 h2 h3 => by omega
 mem := fun k h1 h2 => by omega
 all := fun x hx => by simp at hx
 ne := fun k h1 h2 => by omega
theorem getD_snoc {α : Type} (l : List α) (x d : α) (k : Nat) : (l ++ [x]).getD k d = if k = l.length then x else l.getD k d := by
 split
 ·rename_i h
  subst h
  simp
 ·rename_i h
  rcases Nat.lt_or_ge k l.length with hk | hk
  ·rw [List.getD_eq_getElem?_getD, List.getD_eq_getElem?_getD, List.getElem?_append_left hk]
  ·rw [List.getD_eq_getElem?_getD, List.getD_eq_getElem?_getD, List.getElem?_eq_none (by simp; omega), List.getElem?_eq_none hk]
theorem Mid.push {α : Type} {gs gs' : List (Grp α)} {i : Nat} {D : List (α × Int)} {x : α × Int} (h : Mid gs i gs' D) (hi : i < gs.length) (hx : ∀ y ∈ D, y.2 ≤ x.2) : Mid gs i (pushG gs.length i gs' x) (D ++ [x]) := by
 have hwd : wd gs' i = wd gs i := by rw [wd, wd, h.old i hi]
 have hnew : (∀ k, gs.length ≤ k → k < gs'.length → (gs'.getD k .none).cls < x.2) → Mid gs i (gs' ++ [⟨[x.1], i, x.2, wd gs' i ++ [x.2]⟩]) (D ++ [x]) := by
  intro hlt
  have hl := h.len
  refine ⟨by simp; omega, fun k hk => ?_, fun k h1 h2 => ?_, fun j k h1 h2 h3 => ?_, fun k h1 h2 s => ?_, fun y hy => ?_, fun k h1 h2 => ?_⟩
  ·rw [getD_snoc, if_neg (by omega)]; exact h.old k hk
  ·rw [getD_snoc]
   split
   ·exact ⟨rfl, by rw [hwd]⟩
   ·simp at h2; exact h.new k h1 (by omega)
  ·simp at h3
   rw [getD_snoc, getD_snoc, if_neg (show j ≠ gs'.length by omega)]
   split
   ·exact hlt j h1 (by omega)
   ·exact h.inc j k h1 h2 (by omega)
  ·rw [sts, getD_snoc]
   simp at h2
   split
   ·rename_i hk
    simp only [List.mem_singleton, List.mem_append]
    constructor
    ·intro e; exact .inr (by rw [e])
    ·rintro (e | e)
     ·obtain ⟨k', h3, h4, h5⟩ := h.all _ e
      have := hlt k' h3 h4
      simp only at h5
      omega
     ·rw [← e]
   ·rename_i hk
    have hk' : k < gs'.length := by omega
    have h4 := h.mem k h1 hk' s
    rw [sts] at h4
    rw [h4, List.mem_append]
    constructor
    ·exact .inl
    ·rintro (e | e)
     ·exact e
     ·simp only [List.mem_singleton] at e
      have := hlt k h1 hk'
      rw [← e] at this
      simp at this
  ·rcases List.mem_append.1 hy with hy | hy
   ·obtain ⟨k, h1, h2, h3⟩ := h.all y hy
    exact ⟨k, h1, by simp; omega, by rw [getD_snoc, if_neg (by omega)]; exact h3⟩
   ·simp at hy
    subst hy
    exact ⟨gs'.length, hl, by simp, by rw [getD_snoc, if_pos rfl]⟩
  ·rw [sts, getD_snoc]
   simp at h2
   split
   ·exact ⟨x.1, by simp⟩
   ·exact h.ne k h1 (by omega)
 unfold pushG
 rcases List.eq_nil_or_concat gs' with he | ⟨l, g, he⟩
 ·rw [he] at h; have : gs.length ≤ 0 := h.len; omega
 ·rw [List.concat_eq_append] at he
  subst he
  simp only [List.getLast?_append, List.getLast?_singleton, Option.some_or, List.dropLast_concat]
  have hlg : (l ++ [g]).getD l.length .none = g := by rw [getD_snoc, if_pos rfl]
  have hl := h.len
  simp only [List.length_append, List.length_cons, List.length_nil] at hl ⊢
  split
  ·rename_i hc
   obtain ⟨hc1, hc2⟩ := hc
   have hg : ∀ k, k < l.length + 1 → ((l ++ [{ g with sts := g.sts ++ [x.1] }]).getD k .none).cls = ((l ++ [g]).getD k .none).cls ∧ ((l ++ [{ g with sts := g.sts ++ [x.1] }]).getD k .none).bef = ((l ++ [g]).getD k .none).bef ∧ ((l ++ [{ g with sts := g.sts ++ [x.1] }]).getD k .none).word = ((l ++ [g]).getD k .none).word := fun k _ => by
    rw [getD_snoc, getD_snoc]
    split <;> exact ⟨rfl, rfl, rfl⟩
   refine ⟨by simp; omega, fun k hk => ?_, fun k h1 h2 => ?_, fun j k h1 h2 h3 => ?_, fun k h1 h2 s => ?_, fun y hy => ?_, fun k h1 h2 => ?_⟩
   ·rw [getD_snoc, if_neg (by omega)]
    have := h.old k hk
    rw [getD_snoc, if_neg (by omega)] at this
    exact this
   ·simp at h2
    obtain ⟨e1, e2, e3⟩ := hg k (by omega)
    rw [e1, e2, e3]
    exact h.new k h1 (by simp; omega)
   ·simp at h3
    rw [(hg j (by omega)).1, (hg k (by omega)).1]
    exact h.inc j k h1 h2 (by simp; omega)
   ·simp at h2
    have h4 := h.mem k h1 (by simp; omega) s
    by_cases hk : k = l.length
    ·subst hk
     rw [sts, hlg, hc2] at h4
     rw [(hg _ (by omega)).1, hlg, hc2, sts, getD_snoc, if_pos rfl]
     simp only [List.mem_append, List.mem_singleton]
     rw [h4]
     constructor
     ·rintro (e | e)
      ·exact .inl e
      ·exact .inr (by rw [e])
     ·rintro (e | e)
      ·exact .inl e
      ·exact .inr (by rw [← e])
    ·have e1 : (l ++ [{ g with sts := g.sts ++ [x.1] }]).getD k .none = (l ++ [g]).getD k .none := by rw [getD_snoc, getD_snoc, if_neg hk, if_neg hk]
     rw [sts, e1, ← sts, h4, List.mem_append]
     constructor
     ·exact .inl
     ·rintro (e | e)
      ·exact e
      ·simp only [List.mem_singleton] at e
       have h5 := h.inc k l.length h1 (by omega) (by simp)
       rw [hlg, hc2, ← e] at h5
       simp at h5
   ·rcases List.mem_append.1 hy with hy | hy
    ·obtain ⟨k, h1, h2, h3⟩ := h.all y hy
     simp at h2
     exact ⟨k, h1, by simp; omega, by rw [(hg k (by omega)).1]; exact h3⟩
    ·simp at hy
     subst hy
     exact ⟨l.length, by omega, by simp, by rw [(hg l.length (by omega)).1, hlg]; exact hc2⟩
   ·simp at h2
    rw [sts, getD_snoc]
    split
    ·exact ⟨x.1, by simp⟩
    ·rename_i hk
     have h4 := h.ne k h1 (by simp; omega)
     rw [sts, getD_snoc, if_neg hk] at h4
     exact h4
  ·rename_i hc
   refine hnew fun k h1 h2 => ?_
   simp at h2
   have hne : g.cls ≠ x.2 := fun e => hc ⟨by omega, e⟩
   have hgl : g.cls < x.2 := by
    have hle : g.cls ≤ x.2 := by
     obtain ⟨s, hs⟩ := h.ne l.length (by omega) (by simp)
     have hm := (h.mem l.length (by omega) (by simp) s).1 hs
     rw [hlg] at hm
     exact hx _ hm
    omega
   rcases Nat.lt_or_eq_of_le (show k ≤ l.length by omega) with a | rfl
   ·have := h.inc k l.length h1 a (by simp)
    rw [hlg] at this
    omega
   ·rw [hlg]; exact hgl
theorem Mid.done {α : Type} {succ : α → Int → α → Prop} {start : α} {gs gs' : List (Grp α)} {i : Nat} {L : List (α × Int)} (h : Mid gs i gs' L) (B : Bfs succ start gs i) (hi : i < gs.length)
  (hp : ∀ x ∈ L, ∃ p ∈ sts gs i, succ p x.2 x.1) (hc : ∀ p ∈ sts gs i, ∀ c u, succ p c u → (∃ k, k < gs.length ∧ u ∈ sts gs k) ∨ ∃ x ∈ L, x.1 = u ∧ x.2 ≤ c) : Bfs succ start gs' (i + 1) := by
 have hl := h.len
 have wold : ∀ k, k < gs.length → wd gs' k = wd gs k := fun k hk => by rw [wd, wd, h.old k hk]
 have sold : ∀ k, k < gs.length → sts gs' k = sts gs k := fun k hk => by rw [sts, sts, h.old k hk]
 have wnew : ∀ k, gs.length ≤ k → k < gs'.length → wd gs' k = wd gs i ++ [(gs'.getD k .none).cls] := fun k h1 h2 => (h.new k h1 h2).2
 have below : ∀ k, k < gs.length → ∀ c, Sh (wd gs k) (wd gs i ++ [c]) := fun k hk c => by
  rcases Nat.eq_zero_or_pos k with rfl | h0
  ·rw [B.wd0]; exact .inl (by simp)
  ·obtain ⟨b, _, hb, hbi, hw⟩ := B.link k h0 hk
   rw [hw]
   exact Sh.snoc.2 (.inl (B.sorted b i hbi hi))
 refine ⟨by omega, by rw [h.old 0 B.pos]; exact B.head, fun k h0 hk => ?_, fun j k hj hk => ?_, fun k hk s hs => ?_, fun j hj hjl p hpj c u hs => ?_⟩
 ·rcases Nat.lt_or_ge k gs.length with hkl | hkl
  ·obtain ⟨b, h1, h2, h3, h4⟩ := B.link k h0 hkl
   exact ⟨b, by rw [h.old k hkl]; exact h1, h2, by omega, by rw [wold k hkl, wold b (by omega), h.old k hkl]; exact h4⟩
  ·exact ⟨i, (h.new k hkl hk).1, by omega, by omega, by rw [wnew k hkl hk, wold i hi]⟩
 ·rcases Nat.lt_or_ge k gs.length with hkl | hkl
  ·rw [wold j (by omega), wold k hkl]; exact B.sorted j k hj hkl
  ·rw [wnew k hkl hk]
   rcases Nat.lt_or_ge j gs.length with hjl | hjl
   ·rw [wold j hjl]; exact below j hjl _
   ·rw [wnew j hjl (by omega)]; exact Sh.snoc.2 (.inr ⟨rfl, h.inc j k hjl hj hk⟩)
 ·rcases Nat.lt_or_ge k gs.length with hkl | hkl
  ·rw [wold k hkl]; rw [sold k hkl] at hs; exact B.leads k hkl s hs
  ·rw [wnew k hkl hk]
   have hm := (h.mem k hkl hk s).1 hs
   obtain ⟨p, hpi, hsu⟩ := hp _ hm
   exact .snoc (B.leads i hi p hpi) hsu
 ·rcases Nat.lt_or_ge j i with hji | hji
  ·have hjl' : j < gs.length := by omega
   rw [sold j hjl'] at hpj
   obtain ⟨k, hk, hu, hw⟩ := B.done j hji hjl' p hpj c u hs
   exact ⟨k, by omega, by rw [sold k hk]; exact hu, by rw [wold k hk, wold j hjl']; exact hw⟩
  ·obtain rfl : j = i := by omega
   rw [sold j hi] at hpj
   rcases hc p hpj c u hs with ⟨k, hk, hu⟩ | ⟨x, hx, rfl, hxc⟩
   ·exact ⟨k, by omega, by rw [sold k hk]; exact hu, .inr (by rw [wold k hk, wold j hi]; exact below k hk c)⟩
   ·obtain ⟨k, h1, h2, h3⟩ := h.all x hx
    refine ⟨k, h2, (h.mem k h1 h2 x.1).2 (by rw [h3]; exact hx), ?_⟩
    rw [wnew k h1 h2, wold j hi, h3]
    rcases Int.lt_or_eq_of_le hxc with e | e
    ·exact .inr (Sh.snoc.2 (.inr ⟨rfl, e⟩))
    ·exact .inl (by rw [e])
def WantOK (W0 : World) (OKs : Tri → Prop) (wf : Nat) (wcap : Array Value) (goal : Tri) : Prop :=
 ∀ t W, OKs t → Keeps [] W0 W → Calls Tryz.prog wf (#[triv t] ++ wcap) W fun e W' => e = .returned (.bool (decide (t = goal))) ∧ Keeps [] W W'
def SearchPost (W0 : World) (succ : Tri → Int → Tri → Prop) (s0 goal : Tri) (e : Ending) (W' : World) : Prop :=
 Keeps [] W0 W' ∧ ((∃ a c word, e = .returned (.tuple #[sv a word.length c, .bool true]) ∧ SliceAt W' 3 1 a word.length c (word.map (Value.int .i64)) ∧ Least succ s0 word goal ∧ word.length ≤ 1000000 ∧ ∀ g, a = some g → W0.heap.size ≤ g) ∨
  (e = .returned (.tuple #[.slice none 0 0, .bool false]) ∧ ∀ w, ¬ Lead succ s0 w goal))
def EntersA (K : Nat) : Prop := ∀ (args : Array Value) (w : World), (callFunc K args).run Tryz.prog w = .ok (.enter K args) w
theorem entersA_of {K : Nat} {fn : Func} {c : Code} (hf : Tryz.prog.funcs[K]? = some fn) (hname : (fn.name == "runtime.NumGoroutine") = false) (hb : fn.body = some c) : EntersA K := fun args w => by
 have h1 : fn.name ≠ "runtime.NumGoroutine" := by simpa using hname
 simp [callFunc, hf, h1, hb]
structure SearchPre (W0 : World) (OKs : Tri → Prop) (dom : List Tri) (nf : Nat) (ncap : Array Value) (wf : Nat) (wcap : Array Value) (succ : Tri → Int → Tri → Prop) (s0 goal : Tri) : Prop where
 ok : ∀ t, OKs t → TOK t ∧ t ∈ dom
 len : dom.length ≤ 1000000
 closed : ∀ s c t, OKs s → succ s c t → OKs t
 cls : ∀ s c t, succ s c t → M64 c
 next : NextOK W0 OKs nf ncap succ
 want : WantOK W0 OKs wf wcap goal
 start : OKs s0
 ne : s0 ≠ goal
 enN : EntersA nf
 enW : EntersA wf
def SearchOK : Prop := ∀ W0 OKs dom nf ncap wf wcap succ s0 goal, SearchPre W0 OKs dom nf ncap wf wcap succ s0 goal →
 Calls Tryz.prog 102 #[triv s0, .func (.func nf) #[] ncap, .func (.func wf) #[] wcap] W0 (SearchPost W0 succ s0 goal)
def domD (N : Nat) : List Tri := (List.range N).flatMap fun (a : Nat) => (List.range N).flatMap fun (b : Nat) => [((a : Int), (b : Int), 0), ((a : Int), (b : Int), 1)]
theorem domD_len (N : Nat) : (domD N).length = N * (N * 2) := by
 simp [domD, List.length_flatMap, List.map_const', List.sum_replicate_nat]
theorem domD_ok {N : Nat} (hN : N ≤ 64) {t : Tri} (h : DOK N t) : TOK t ∧ t ∈ domD N := by
 obtain ⟨a, b, d⟩ := t
 obtain ⟨⟨a0, a1⟩, ⟨b0, b1⟩, hd⟩ := h
 simp only at a0 a1 b0 b1 hd
 refine ⟨⟨⟨?_, ?_⟩, ⟨?_, ?_⟩, ⟨?_, ?_⟩⟩, ?_⟩
 ·show _ ≤ a; omega
 ·show a ≤ _; omega
 ·show _ ≤ b; omega
 ·show b ≤ _; omega
 ·show _ ≤ d; omega
 ·show d ≤ _; omega
 ·obtain ⟨a, rfl⟩ := Int.eq_ofNat_of_zero_le a0
  obtain ⟨b, rfl⟩ := Int.eq_ofNat_of_zero_le b0
  simp only [domD, List.mem_flatMap, List.mem_range]
  refine ⟨a, by omega, b, by omega, ?_⟩
  rcases hd with rfl | rfl <;> simp
theorem DSucc.ok {N : Nat} {es : List E4} {part : Nat} (hed : ∀ e ∈ es, 0 ≤ e.tt ∧ e.tt < N) {s t : Tri} {c : Int} (hs : DOK N s) (h : DSucc es part s c t) : DOK N t := by
 obtain ⟨e, he, f, hf, _, _, _, _, _, _, rfl⟩ := h
 have h1 := hed e he
 have h2 := hed f hf
 refine ⟨⟨?_, ?_⟩, ⟨?_, ?_⟩, ?_⟩
 ·show 0 ≤ min e.tt f.tt; omega
 ·show min e.tt f.tt < N; omega
 ·show 0 ≤ max e.tt f.tt; omega
 ·show max e.tt f.tt < N; omega
 ·show (if _ then (1 : Int) else s.2.2) = 0 ∨ (if _ then (1 : Int) else s.2.2) = 1
  split
  ·exact .inr rfl
  ·exact hs.2.2
theorem SearchPost.older {w W0 : World} {succ : Tri → Int → Tri → Prop} {s0 goal : Tri} {e : Ending} {W' : World} (h : SearchPost W0 succ s0 goal e W') (k : Keeps [] w W0) : SearchPost w succ s0 goal e W' := by
 obtain ⟨h1, h2⟩ := h
 refine ⟨k.trans h1, ?_⟩
 rcases h2 with ⟨a, c, word, e1, e2, e3, e5, e4⟩ | h2
 ·exact .inl ⟨a, c, word, e1, e2, e3, e5, fun g hg => Nat.le_trans k.size (e4 g hg)⟩
 ·exact .inr h2
theorem double_any (S : SearchOK) (wb : Nat) (x : Gr) (rows : List Nat) (n : Nat) (w : World) (hw : WaysAt w wb x rows) (ok : GrOK x) (hl : rows.length = x.nodes.length) (hlt : ∀ n, n < rows.length → rows.getD n 0 < 2 ^ 64) (hn : n < rows.length) :
  Calls Tryz.prog 68 #[.pointer (some ⟨wb, 0, none⟩), .int .i64 n] w (SearchPost w (DSucc x.edges (partN rows n)) ((n : Int), (n : Int), 0) ((n : Int), (n : Int), 1)) := by
 have hln := ok.ln
 obtain ⟨Y, hY⟩ : ∃ Y, Y = (w.alloc (.cells #[.pointer (some ⟨wb, 0, none⟩)] 130)).alloc (.cells #[.int .i64 n] 3) := ⟨_, rfl⟩
 have hkY : Keeps [] w Y := by rw [hY]; exact ((Keeps.refl [] w).alloc _).alloc _
 obtain ⟨B, hB⟩ : ∃ B, B = w.heap.size := ⟨_, rfl⟩
 have c0 : Y.heap[B]? = some (.cells #[.pointer (some ⟨wb, 0, none⟩)] 130 (0, 0)) := by rw [hY, hB]; exact (Keeps.a1 _ _).heap (heap_alloc_new w _) (by simp)
 have c1 : Y.heap[B + 1]? = some (.cells #[.int .i64 n] 3 (0, 0)) := by rw [hY, hB]; exact heap_alloc2_new w _ _
 have b0 : Y.cell? ⟨B, 0, none⟩ = some (.pointer (some ⟨wb, 0, none⟩)) := by simp [World.cell?, c0]
 have b1 : Y.cell? ⟨B + 1, 0, none⟩ = some (.int .i64 n) := by simp [World.cell?, c1]
 have HPA := gI (part_any wb x rows n Y (hw.keep hkY) hl hln hlt hn)
 have HW := gI (hw.keep hkY)
 have HOK := gI ok
 have HKY := gI hkY
 have HY := gI hY
 have HB := gI hB
 have HPL := gI (partN_lt rows n (by omega))
 have HN := gI (show n < x.nodes.length by omega)
 obtain ⟨Q, hQ⟩ : ∃ Q, Q = SearchPost w (DSucc x.edges (partN rows n)) ((n : Int), (n : Int), 0) ((n : Int), (n : Int), 1) := ⟨_, rfl⟩
 rw [← hQ]
 have HQ := gI hQ
 have HS := gI S
 obtain ⟨part, hp⟩ : ∃ p, p = partN rows n := ⟨_, rfl⟩
 simp only [← hp] at HPA HPL HQ
 clear hw ok hl hlt hn hY hkY hB c0 c1 hQ hp S
 go_enter Tryz.func68, Tryz.ntmps68
 go_upto_region 1 with fail
 rw [← HY.out, ← HB.out]
 go_wp2_with fail
 refine HPA.out.mono ?_
 rintro e w2 ⟨rfl, hk2⟩
 obtain ⟨Z, hZ⟩ : ∃ Z, Z = w2.alloc (.cells #[.int .u64 part] 173) := ⟨_, rfl⟩
 have hkZ : Keeps [] Y Z := by rw [hZ]; exact hk2.alloc _
 obtain ⟨C, hC⟩ : ∃ C, C = w2.heap.size := ⟨_, rfl⟩
 have hZH : Z.heap[C]? = some (.cells #[.int .u64 part] 173 (0, 0)) := by rw [hZ, hC]; exact heap_alloc_new w2 _
 have d0 := hkZ.cell b0 (by simp)
 have d1 := hkZ.cell b1 (by simp)
 have dp : Z.cell? ⟨C, 0, none⟩ = some (.int .u64 part) := by simp [World.cell?, hZH]
 have d1' := d1
 rw [hZ] at d1'
 have HC := gI hC
 have HZ := gI hZ
 have hN := HN.out
 have hln := HOK.out.ln
 have hDOK : DOK x.nodes.length ((n : Int), (n : Int), 0) := ⟨⟨by show (0 : Int) ≤ n; omega, by show (n : Int) < x.nodes.length; omega⟩, ⟨by show (0 : Int) ≤ n; omega, by show (n : Int) < x.nodes.length; omega⟩, .inl rfl⟩
 have hM : M64 (n : Int) := M64.small (by omega) (by omega)
 have HCALL := gI (HS.out Z (DOK x.nodes.length) (domD x.nodes.length) 101 #[.pointer (some ⟨B, 0, none⟩), .pointer (some ⟨C, 0, none⟩)] 103 #[.pointer (some ⟨B + 1, 0, none⟩)] (DSucc x.edges part) ((n : Int), (n : Int), 0) ((n : Int), (n : Int), 1)
  {ok := fun t ht => domD_ok hln ht
   len := by
    rw [domD_len]
    exact Nat.le_trans (Nat.mul_le_mul hln (Nat.mul_le_mul_right 2 hln)) (by decide)
   closed := fun s c t hs h => DSucc.ok (fun e he => (HOK.out.ed e he).2.1) hs h
   cls := fun s c t h => by
    obtain ⟨e, he, f, _, _, _, h3, _⟩ := h
    have := (HOK.out.ed e he).2.2.1
    have := HW.out.gr.lc
    rw [← h3]
    exact M64.small (by omega) (by omega)
   next := doubleNext_ok x rows wb B C part Z (HW.out.keep hkZ) HOK.out d0 dp HPL.out
   want := fun t W ht hk => by
    have h := wantD_any (B + 1) (n : Int) t W (hk.cell d1 (by simp)) (domD_ok hln ht).1 hM
    exact h
   start := hDOK
   ne := by simp
   enN := entersA_of Tryz.func101 (by kernel_rfl) rfl
   enW := entersA_of Tryz.func103 (by kernel_rfl) rfl })
 have HPOST := gI (show Keeps [] w Z from HKY.out.trans hkZ)
 clear d0 d1 dp hZH hkZ hDOK hM hk2 b0 b1 hC hZ
 simp only [triv] at HCALL
 go_wp2_with fail
 rw [← HZ.out, ← HC.out]
 refine HCALL.out.mono ?_
 intro e w3 h3
 have h4 := h3.older HPOST.out
 rw [← HQ.out] at h4
 have H4 := gI h4
 obtain ⟨_, h5⟩ := h3
 rcases h5 with ⟨a, c, word, rfl, _⟩ | ⟨rfl, _⟩
 ·clear h4
  go_wp2
  exact H4.out
 ·clear h4
  go_wp2
  exact H4.out
end Go.Proofs.YtkekenaamnhbhaaGreat
