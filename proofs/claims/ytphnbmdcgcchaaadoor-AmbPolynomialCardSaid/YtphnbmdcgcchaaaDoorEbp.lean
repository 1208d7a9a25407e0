/- Part 42 of the proof. No condition: every lemma says its own. -/
import Derived.Test.YtphnbmdcgcchaaaDoorEbo
import Derived.Test.YtphnbmdcgcchaaaDoorEay
import Derived.Test.YtphnbmdcgcchaaaDoorEbf
namespace Go.Proofs.YtphnbmdcgcchaaaDoor
open Go.RowKit Go.Sort Go.BigFrame
set_option maxRecDepth 100000
set_option maxHeartbeats 16000000
def sm (l : List Nat) (f : Nat → Nat) : Nat := (l.map f).sum
theorem sm_nil (f : Nat → Nat) : sm [] f = 0 := rfl
theorem sm_cons (a : Nat) (l : List Nat) (f : Nat → Nat) : sm (a :: l) f = f a + sm l f := by simp [sm]
theorem sm_add (f g : Nat → Nat) : ∀ l, sm l (fun x => f x + g x) = sm l f + sm l g
 | [] => rfl
 | a :: l => by rw [sm_cons, sm_cons, sm_cons, sm_add f g l]; omega
theorem sm_mul (k : Nat) (f : Nat → Nat) : ∀ l, sm l (fun x => k * f x) = k * sm l f
 | [] => rfl
 | a :: l => by rw [sm_cons, sm_cons, sm_mul k f l, Nat.mul_add]
theorem sm_mulr (k : Nat) (f : Nat → Nat) : ∀ l, sm l (fun x => f x * k) = sm l f * k
 | [] => by simp [sm]
 | a :: l => by rw [sm_cons, sm_cons, sm_mulr k f l, Nat.add_mul]
theorem sm_zero : ∀ l, sm l (fun _ => 0) = 0
 | [] => rfl
 | a :: l => by rw [sm_cons, sm_zero l]
theorem sm_le {f g : Nat → Nat} : ∀ {l : List Nat}, (∀ x ∈ l, f x ≤ g x) → sm l f ≤ sm l g
 | [], _ => Nat.le_refl _
 | a :: l, h => by
  rw [sm_cons, sm_cons]
  exact Nat.add_le_add (h a (by simp)) (sm_le fun x hx => h x (by simp [hx]))
theorem sm_eq {f g : Nat → Nat} {l : List Nat} (h : ∀ x ∈ l, f x = g x) : sm l f = sm l g :=
 Nat.le_antisymm (sm_le fun x hx => by rw [h x hx]; exact Nat.le_refl _) (sm_le fun x hx => by rw [h x hx]; exact Nat.le_refl _)
theorem sm_const (k : Nat) {f : Nat → Nat} : ∀ {l : List Nat}, (∀ x ∈ l, f x ≤ k) → sm l f ≤ l.length * k
 | [], _ => by simp [sm]
 | a :: l, h => by
  rw [sm_cons, List.length_cons, Nat.succ_mul]
  have := h a (by simp)
  have := sm_const k (l := l) fun x hx => h x (by simp [hx])
  omega
theorem sm_swap (g : Nat → Nat → Nat) (t : List Nat) : ∀ l, sm l (fun p => sm t (fun q => g p q)) = sm t (fun q => sm l (fun p => g p q))
 | [] => by rw [sm_nil]; simp only [sm_nil]; rw [sm_zero]
 | a :: l => by
  rw [sm_cons, sm_swap g t l, ← sm_add]
  exact sm_eq fun x _ => by rw [sm_cons]
theorem sm_split (c : Nat → Bool) (f : Nat → Nat) : ∀ l, sm l f = sm (l.filter c) f + sm (l.filter fun x => !c x) f
 | [] => rfl
 | a :: l => by
  rw [sm_cons, sm_split c f l, List.filter_cons, List.filter_cons]
  cases h : c a
  ·simp only [Bool.false_eq_true, if_false, Bool.not_false, if_true, sm_cons]; omega
  ·simp only [if_true, Bool.not_true, Bool.false_eq_true, if_false, sm_cons]; omega
theorem sm_one {k : Nat} {g : Nat → Nat} : ∀ {l : List Nat}, l.Nodup → k ∈ l → sm l (fun p => if k = p then g p else 0) = g k
 | a :: l, hn, hk => by
  obtain ⟨n1, n2⟩ := List.nodup_cons.1 hn
  rw [sm_cons]
  rcases List.mem_cons.1 hk with rfl | hk
  ·rw [if_pos rfl]
   have : sm l (fun p => if k = p then g p else 0) = 0 := (sm_eq fun x hx => if_neg fun (e : k = x) => n1 (e ▸ hx)).trans (sm_zero l)
   omega
  ·rw [if_neg (fun (e : k = a) => n1 (e ▸ hk)), sm_one n2 hk, Nat.zero_add]
def mA (E : List Ed) (c : Int) (p q : Nat) : Nat := ((E.filter fun e => e.cl = c ∧ e.fr = p ∧ e.tt = q).map fun e => e.ws).sum
theorem grpA {N : Nat} (f : Nat → Nat) (c : Int) (q : Nat) : ∀ {E : List Ed}, (∀ e ∈ E, e.fr < N) → ((E.filter fun e => e.cl = c ∧ e.tt = q).map fun e => f e.fr * e.ws).sum = sm (List.range N) (fun p => f p * mA E c p q)
 | [], _ => by
  show 0 = sm _ (fun p => f p * 0)
  simp only [Nat.mul_zero]
  rw [sm_zero]
 | e :: E, h => by
  have ih := grpA (N := N) f c q (E := E) fun x hx => h x (by simp [hx])
  have he := h e (by simp)
  have hA : ∀ p, mA (e :: E) c p q = (if e.fr = p then (if e.cl = c ∧ e.tt = q then e.ws else 0) else 0) + mA E c p q := by
   intro p
   unfold mA
   rw [List.filter_cons]
   by_cases h1 : e.cl = c ∧ e.tt = q
   ·by_cases h2 : e.fr = p
    ·rw [if_pos (by simp [h1, h2]), if_pos h2, if_pos h1, List.map_cons, List.sum_cons]
    ·rw [if_neg (by simp [h2]), if_neg h2, Nat.zero_add]
   ·rw [if_neg (by simp; intro a _ b; exact h1 ⟨a, b⟩), if_neg h1]
    simp
  have e1 : sm (List.range N) (fun p => f p * mA (e :: E) c p q) = sm (List.range N) (fun p => if e.fr = p then f p * (if e.cl = c ∧ e.tt = q then e.ws else 0) else 0) + sm (List.range N) (fun p => f p * mA E c p q) := by
   rw [← sm_add]
   refine sm_eq fun p _ => ?_
   rw [hA p, Nat.mul_add]
   split <;> simp
  rw [e1, sm_one List.nodup_range (List.mem_range.2 he), ← ih, List.filter_cons]
  by_cases h1 : e.cl = c ∧ e.tt = q
  ·rw [if_pos (by simp [h1]), if_pos h1, List.map_cons, List.sum_cons]
  ·rw [if_neg (by simp; intro a b; exact h1 ⟨a, b⟩), if_neg h1]
   simp
theorem ways_A {E : List Ed} {N : Nat} (hE : ∀ e ∈ E, e.fr < N) (n : Nat) (w : List Int) (c : Int) (q : Nat) : ways E n (w ++ [c]) q = sm (List.range N) (fun p => ways E n w p * mA E c p q) := by
 rw [ways_snoc]
 exact grpA (ways E n w) c q hE
theorem mA_two {E : List Ed} (hE : EdOK E) (hn : E.Nodup) (h2 : ∀ e ∈ E, e.ws ≤ 2) (c : Int) (p q : Nat) : mA E c p q ≤ 2 := by
 unfold mA
 have hf := hn.filter (fun e => decide (e.cl = c ∧ e.fr = p ∧ e.tt = q))
 have hm : ∀ e ∈ E.filter (fun e => decide (e.cl = c ∧ e.fr = p ∧ e.tt = q)), e ∈ E ∧ e.cl = c ∧ e.fr = p ∧ e.tt = q := fun e he => by
  rw [List.mem_filter] at he
  have := he.2
  simp only [decide_eq_true_eq] at this
  exact ⟨he.1, this⟩
 generalize E.filter (fun e => decide (e.cl = c ∧ e.fr = p ∧ e.tt = q)) = l at hf hm
 match l, hf, hm with
 | [], _, _ => simp
 | [e], _, hm => simpa using h2 e (hm e (by simp)).1
 | e :: f :: l, hf, hm =>
  obtain ⟨e1, e2, e3, e4⟩ := hm e (by simp)
  obtain ⟨f1, f2, f3, f4⟩ := hm f (by simp)
  have := hE.2 e e1 f f1 (by rw [e3, f3]) (by rw [e4, f4]) (by rw [e2, f2])
  subst this
  simp at hf
def tot (E : List Ed) (N : Nat) : List Int → Nat → Nat
 | [], _ => 1
 | c :: u, p => sm (List.range N) (fun q => mA E c p q * tot E N u q)
theorem tot_split {E : List Ed} {N : Nat} (hE : ∀ e ∈ E, e.fr < N) {n : Nat} (hn : n < N) (v : List Int) : ∀ u, tot E N (v ++ u) n = sm (List.range N) (fun m => ways E n v m * tot E N u m) := by
 induction v using snoc_ind with
 | h0 =>
  intro u
  have : sm (List.range N) (fun m => ways E n [] m * tot E N u m) = sm (List.range N) (fun m => if n = m then tot E N u m else 0) := sm_eq fun m _ => by
   rw [ways_nil]
   by_cases h : m = n
   ·subst h; simp
   ·rw [if_neg h, if_neg (fun e => h e.symm), Nat.zero_mul]
  rw [this, sm_one List.nodup_range (List.mem_range.2 hn), List.nil_append]
 | h1 v c ih =>
  intro u
  rw [List.append_assoc, List.singleton_append, ih (c :: u)]
  have e1 : ∀ m, ways E n v m * tot E N (c :: u) m = sm (List.range N) (fun q => ways E n v m * mA E c m q * tot E N u q) := fun m => by
   rw [tot, ← sm_mul]
   exact sm_eq fun q _ => by rw [Nat.mul_assoc]
  rw [sm_eq fun m _ => e1 m, sm_swap]
  exact sm_eq fun q _ => by rw [sm_mulr, ways_A hE]
def Rch (E : List Ed) (p q : Nat) : Prop := ∃ w, 1 ≤ ways E p w q
theorem Rch.refl (E : List Ed) (p : Nat) : Rch E p p := ⟨[], by rw [ways_nil, if_pos rfl]; exact Nat.le_refl 1⟩
theorem Rch.trans {E : List Ed} {p q r : Nat} (h : Rch E p q) (k : Rch E q r) : Rch E p r := by
 obtain ⟨v, hv⟩ := h
 obtain ⟨w, hw⟩ := k
 exact ⟨v ++ w, Nat.le_trans (Nat.mul_le_mul hv hw) (ways_trans E p q v w r)⟩
theorem max_of (f : Nat → Nat) : ∀ {l : List Nat}, l ≠ [] → ∃ x ∈ l, ∀ y ∈ l, f y ≤ f x
 | [a], _ => ⟨a, by simp, by simp⟩
 | a :: b :: l, _ => by
  obtain ⟨x, hx, hm⟩ := max_of f (l := b :: l) (by simp)
  rcases Nat.le_total (f a) (f x) with h | h
  ·exact ⟨x, by simp at hx ⊢; exact .inr hx, fun y hy => by
    rcases List.mem_cons.1 hy with rfl | hy
    ·exact h
    ·exact hm y hy⟩
  ·exact ⟨a, by simp, fun y hy => by
    rcases List.mem_cons.1 hy with rfl | hy
    ·exact Nat.le_refl _
    ·exact Nat.le_trans (hm y hy) h⟩
theorem filter_le {p q : Nat → Bool} : ∀ {l : List Nat}, (∀ x ∈ l, p x = true → q x = true) → (l.filter p).length ≤ (l.filter q).length
 | [], _ => by simp
 | a :: l, h => by
  have ih := filter_le (l := l) fun x hx => h x (by simp [hx])
  have ha := h a (by simp)
  rw [List.filter_cons, List.filter_cons]
  cases hp : p a <;> cases hq : q a <;> simp_all <;> omega
theorem filter_lt {p q : Nat → Bool} : ∀ {l : List Nat}, (∀ x ∈ l, p x = true → q x = true) → (∃ x ∈ l, q x = true ∧ p x = false) → (l.filter p).length < (l.filter q).length
 | [], _, h => by obtain ⟨x, hx, _⟩ := h; cases hx
 | a :: l, h, ⟨x, hx, h1, h2⟩ => by
  have ha := h a (by simp)
  rw [List.filter_cons, List.filter_cons]
  rcases List.mem_cons.1 hx with rfl | hx
  ·have ih := filter_le (l := l) fun y hy => h y (by simp [hy])
   rw [h1, h2]
   simp
   omega
  ·have ih := filter_lt (l := l) (fun y hy => h y (by simp [hy])) ⟨x, hx, h1, h2⟩
   cases hp : p a <;> cases hq : q a <;> simp_all <;> omega
open Classical in
theorem top_node (E : List Ed) (N : Nat) {l : List Nat} (h : l ≠ []) (hl : ∀ m ∈ l, m < N) : ∃ n ∈ l, ∀ m ∈ l, Rch E m n → Rch E n m := by
 obtain ⟨n, hn, hm⟩ := max_of (fun n => ((List.range N).filter fun m => decide (Rch E n m)).length) h
 refine ⟨n, hn, fun m hm' hr => ?_⟩
 by_cases hk : Rch E n m
 ·exact hk
 ·exfalso
  have := filter_lt (p := fun q => decide (Rch E n q)) (q := fun q => decide (Rch E m q)) (l := List.range N) (fun q _ hq => by simp at hq ⊢; exact hr.trans hq) ⟨m, List.mem_range.2 (hl m hm'), by simp; exact Rch.refl E m, by simpa using hk⟩
  have h2 := hm m hm'
  omega
def bU : Nat → Nat
 | 0 => 0
 | 1 => 1
 | 2 => 662
 | 3 => 437583
 | 4 => 289242364
 | _ => 191189202605
theorem bU_step {c d g : Nat} (hc : 1 ≤ c) (hcd : c + d ≤ 5) (hg : g ≤ bU d) : c * (c + 330 * (c * (2 * g))) + g ≤ bU (c + d) := by
 rcases (by omega : c = 1 ∨ c = 2 ∨ c = 3 ∨ c = 4 ∨ c = 5) with rfl | rfl | rfl | rfl | rfl <;> rcases (by omega : d = 0 ∨ d = 1 ∨ d = 2 ∨ d = 3 ∨ d = 4) with rfl | rfl | rfl | rfl | rfl <;> (first | (exfalso; omega) | skip) <;> simp only [bU] at hg ⊢ <;> omega
open Classical in
theorem few {E : List Ed} {N : Nat} (hE : ∀ e ∈ E, e.fr < N) (hok : EdOK E) (hnd : E.Nodup) (h2 : ∀ e ∈ E, e.ws ≤ 2) (hN : N ≤ 5) : ∀ (k : Nat) (s : Nat → Bool), ((List.range N).filter s).length = k →
  (∀ p q, p < N → q < N → s p = true → Rch E p q → s q = true) → (∀ p, p < N → s p = true → ∀ w, ways E p w p ≤ 1) → ∀ v : List Int, v.length ≤ 330 → sm ((List.range N).filter s) (tot E N v) ≤ bU k := by
 intro k
 induction k using Nat.strongRecOn with
 | ind k ih =>
  intro s hk hcl hno v hv
  by_cases hk0 : k = 0
  ·subst hk0
   rw [List.length_eq_zero_iff.1 hk]
   exact Nat.le_refl _
  ·have hne : (List.range N).filter s ≠ [] := fun h => hk0 (by rw [← hk, h]; rfl)
   have hmem : ∀ m, m ∈ (List.range N).filter s ↔ m < N ∧ s m = true := fun m => by rw [List.mem_filter, List.mem_range]
   obtain ⟨n0, hn0, htop⟩ := top_node E N hne fun m hm => ((hmem m).1 hm).1
   obtain ⟨n0N, n0s⟩ := (hmem n0).1 hn0
   let C : Nat → Bool := fun m => decide (Rch E n0 m ∧ Rch E m n0)
   have hC : ∀ m, C m = true ↔ Rch E n0 m ∧ Rch E m n0 := fun m => by simp [C]
   have hsplit : ∀ f, sm ((List.range N).filter s) f = sm ((List.range N).filter fun m => s m && C m) f + sm ((List.range N).filter fun m => s m && !C m) f := fun f => by
    rw [sm_split C f ((List.range N).filter s), List.filter_filter, List.filter_filter]
    congr 2 <;> (congr 1; funext m; exact Bool.and_comm _ _)
   have hlen : ((List.range N).filter fun m => s m && C m).length + ((List.range N).filter fun m => s m && !C m).length = k := by
    have := hsplit (fun _ => 1)
    have one : ∀ l : List Nat, sm l (fun _ => 1) = l.length := fun l => by
     induction l with
     | nil => rfl
     | cons a l ih => rw [sm_cons, ih, List.length_cons]; omega
    rw [one, one, one, hk] at this
    exact this.symm
   obtain ⟨c, hc⟩ : ∃ c, c = ((List.range N).filter fun m => s m && C m).length := ⟨_, rfl⟩
   obtain ⟨d, hd⟩ : ∃ d, d = ((List.range N).filter fun m => s m && !C m).length := ⟨_, rfl⟩
   rw [← hc, ← hd] at hlen
   have hk5 : k ≤ 5 := by
    rw [← hk]
    exact Nat.le_trans (List.length_filter_le _ _) (by rw [List.length_range]; exact hN)
   have hc1 : 1 ≤ c := by
    rw [hc]
    refine List.length_pos_of_mem (a := n0) (List.mem_filter.2 ⟨List.mem_range.2 n0N, ?_⟩)
    rw [n0s, (hC n0).2 ⟨Rch.refl _ _, Rch.refl _ _⟩]
    rfl
   have hcmem : ∀ m, m ∈ ((List.range N).filter fun m => s m && C m) ↔ m < N ∧ s m = true ∧ C m = true := fun m => by rw [List.mem_filter, List.mem_range, Bool.and_eq_true]
   have hdmem : ∀ m, m ∈ ((List.range N).filter fun m => s m && !C m) ↔ m < N ∧ s m = true ∧ C m = false := fun m => by rw [List.mem_filter, List.mem_range, Bool.and_eq_true, Bool.not_eq_true']
   have hdcl : ∀ p q, p < N → q < N → (s p && !C p) = true → Rch E p q → (s q && !C q) = true := by
    intro p q hp hq hsp hr
    rw [Bool.and_eq_true, Bool.not_eq_true'] at hsp ⊢
    refine ⟨hcl p q hp hq hsp.1 hr, ?_⟩
    cases hq2 : C q with
    | false => rfl
    | true =>
     exfalso
     have h3 := hr.trans ((hC q).1 hq2).2
     have h4 := htop p ((hmem p).2 ⟨hp, hsp.1⟩) h3
     have h5 := (hC p).2 ⟨h4, h3⟩
     rw [hsp.2] at h5
     cases h5
   have hG : ∀ u : List Int, u.length ≤ 330 → sm ((List.range N).filter fun m => s m && !C m) (tot E N u) ≤ bU d :=
    ih d (by omega) _ hd.symm hdcl (fun p hp hs => hno p hp (by rw [Bool.and_eq_true] at hs; exact hs.1))
   have hone : ∀ n, n < N → s n = true → C n = true → tot E N v n ≤ c + 330 * (c * (2 * bU d)) := by
    intro n hn hsn hCn
    have hw1 : ∀ w m, C m = true → ways E n w m ≤ 1 := by
     intro w m hm
     obtain ⟨u, hu⟩ := ((hC m).1 hm).2.trans ((hC n).1 hCn).1
     have h3 := ways_trans E n m w u n
     have h4 := hno n hn hsn (w ++ u)
     rcases Nat.lt_or_ge 1 (ways E n w m) with h5 | h5
     ·have := Nat.mul_le_mul h5 hu
      omega
     ·exact h5
    have hw0 : ∀ w m, m < N → s m = false → ways E n w m = 0 := by
     intro w m hm hs
     rcases Nat.eq_zero_or_pos (ways E n w m) with h3 | h3
     ·exact h3
     ·have := hcl n m hn hm hsn ⟨w, h3⟩
      rw [hs] at this
      cases this
    have hrs : ∀ f : Nat → Nat, (∀ m, m < N → s m = false → f m = 0) → sm (List.range N) f = sm ((List.range N).filter s) f := by
     intro f hf
     rw [sm_split s f (List.range N)]
     have : sm ((List.range N).filter fun x => !s x) f = 0 := by
      rw [← sm_zero ((List.range N).filter fun x => !s x)]
      refine sm_eq fun m hm => ?_
      rw [List.mem_filter, List.mem_range, Bool.not_eq_true'] at hm
      exact hf m hm.1 hm.2
     omega
    have hout : ∀ (w : List Int), ∀ u : List Int, w.length + u.length ≤ 330 → sm ((List.range N).filter fun m => s m && !C m) (fun m => ways E n w m * tot E N u m) ≤ w.length * (c * (2 * bU d)) := by
     intro w
     induction w using snoc_ind with
     | h0 =>
      intro u _
      rw [List.length_nil, Nat.zero_mul]
      refine Nat.le_of_eq ?_
      rw [← sm_zero ((List.range N).filter fun m => s m && !C m)]
      refine sm_eq fun m hm => ?_
      have h3 := (hdmem m).1 hm
      rw [ways_nil, if_neg, Nat.zero_mul]
      intro e
      subst e
      rw [hCn] at h3
      exact absurd h3.2.2 (by simp)
     | h1 w a ihw =>
      intro u hu
      rw [List.length_append, List.length_singleton] at hu ⊢
      have e1 : sm ((List.range N).filter fun m => s m && !C m) (fun m => ways E n (w ++ [a]) m * tot E N u m) = sm (List.range N) (fun p => ways E n w p * sm ((List.range N).filter fun m => s m && !C m) (fun m => mA E a p m * tot E N u m)) := by
       have e2 : ∀ m, ways E n (w ++ [a]) m * tot E N u m = sm (List.range N) (fun p => ways E n w p * mA E a p m * tot E N u m) := fun m => by rw [ways_A hE, sm_mulr]
       rw [sm_eq fun m _ => e2 m, sm_swap]
       refine sm_eq fun p _ => ?_
       rw [← sm_mul]
       exact sm_eq fun m _ => by rw [Nat.mul_assoc]
      rw [e1, hrs _ (fun p hp hs => by rw [hw0 w p hp hs, Nat.zero_mul]), hsplit]
      have f1 : sm ((List.range N).filter fun m => s m && C m) (fun p => ways E n w p * sm ((List.range N).filter fun m => s m && !C m) (fun m => mA E a p m * tot E N u m)) ≤ c * (2 * bU d) := by
       rw [hc]
       refine sm_const _ fun p hp => ?_
       have h3 := (hcmem p).1 hp
       have h4 := hw1 w p h3.2.2
       have h5 : sm ((List.range N).filter fun m => s m && !C m) (fun m => mA E a p m * tot E N u m) ≤ 2 * bU d := by
        refine Nat.le_trans (sm_le (g := fun m => 2 * tot E N u m) fun m _ => Nat.mul_le_mul_right _ (mA_two hok hnd h2 a p m)) ?_
        rw [sm_mul]
        exact Nat.mul_le_mul_left _ (hG u (by omega))
       have := Nat.mul_le_mul h4 h5
       omega
      have f2 : sm ((List.range N).filter fun m => s m && !C m) (fun p => ways E n w p * sm ((List.range N).filter fun m => s m && !C m) (fun m => mA E a p m * tot E N u m)) ≤ sm ((List.range N).filter fun m => s m && !C m) (fun p => ways E n w p * tot E N (a :: u) p) := by
       refine sm_le fun p _ => Nat.mul_le_mul_left _ ?_
       rw [tot, sm_split (fun m => s m && !C m) _ (List.range N)]
       exact Nat.le_add_right _ _
      have f3 := ihw (a :: u) (by rw [List.length_cons]; omega)
      rw [Nat.add_mul, Nat.one_mul]
      omega
    have h3 := tot_split hE hn v []
    rw [List.append_nil] at h3
    rw [h3, hrs _ (fun p hp hs => by rw [hw0 v p hp hs, Nat.zero_mul]), hsplit]
    have f1 : sm ((List.range N).filter fun m => s m && C m) (fun m => ways E n v m * tot E N [] m) ≤ c := by
     have := sm_const 1 (f := fun m => ways E n v m * tot E N [] m) (l := (List.range N).filter fun m => s m && C m) fun m hm => by
      have := hw1 v m ((hcmem m).1 hm).2.2
      show ways E n v m * 1 ≤ 1
      omega
     rw [← hc, Nat.mul_one] at this
     exact this
    have f2 := hout v [] (by simpa using hv)
    have f3 := Nat.mul_le_mul_right (c * (2 * bU d)) hv
    omega
   rw [hsplit]
   have g1 : sm ((List.range N).filter fun m => s m && C m) (tot E N v) ≤ c * (c + 330 * (c * (2 * bU d))) := by
    have := sm_const (c + 330 * (c * (2 * bU d))) (f := tot E N v) (l := (List.range N).filter fun m => s m && C m) fun m hm => by
     have h3 := (hcmem m).1 hm
     exact hone m h3.1 h3.2.1 h3.2.2
    rw [← hc] at this
    exact this
   have g2 := hG v hv
   have g3 := bU_step hc1 (by omega : c + d ≤ 5) (Nat.le_refl (bU d))
   rw [hlen] at g3
   omega
theorem cw_le {N : Nat} {f F : Nat → Nat} {cs a : List Int} (hc : ∀ m, cs.getD m 0 ≤ f m) (ha : ∀ m, a.getD m 0 ≤ F m) (hl : a.length = N) {e : E4} (ht : 0 ≤ e.tt ∧ e.tt < N) (hw : 1 ≤ e.ws) :
  (cw cs a e).length = N ∧ ∀ m, (cw cs a e).getD m 0 ≤ (F m + if e.tt.toNat = m then f e.fr.toNat * e.ws.toNat else 0 : Nat) := by
 refine ⟨by rw [cw, List.length_set, hl], fun m => ?_⟩
 rw [cw, getD_sE _ _ _ _ (by omega)]
 have hm := ha m
 split
 ·rename_i h
  rw [h]
  have h1 := hc e.fr.toNat
  have h2 : cs.getD e.fr.toNat 0 * e.ws ≤ (f e.fr.toNat * e.ws.toNat : Nat) := by
   have h3 := Int.mul_le_mul_of_nonneg_right h1 (show 0 ≤ e.ws by omega)
   have h4 : ((e.ws.toNat : Nat) : Int) = e.ws := Int.toNat_of_nonneg (by omega)
   rw [Int.natCast_mul, h4]
   exact h3
  have hF : ((F m + f e.fr.toNat * e.ws.toNat : Nat) : Int) = F m + (f e.fr.toNat * e.ws.toNat : Nat) := by rw [Int.natCast_add]
  rw [hF]
  split
  ·rename_i h3
   rw [Int.ediv_lt_iff_lt_mul (by omega)] at h3
   omega
  ·omega
 ·omega
theorem fold_le {N : Nat} {f : Nat → Nat} {cs : List Int} (hc : ∀ m, cs.getD m 0 ≤ f m) : ∀ {L : List E4} {F : Nat → Nat} {a : List Int}, (∀ e ∈ L, (0 ≤ e.tt ∧ e.tt < N) ∧ 1 ≤ e.ws) → a.length = N → (∀ m, a.getD m 0 ≤ F m) →
  (L.foldl (cw cs) a).length = N ∧ ∀ m, (L.foldl (cw cs) a).getD m 0 ≤ (F m + ((L.filter fun e => e.tt.toNat = m).map fun e => f e.fr.toNat * e.ws.toNat).sum : Nat)
 | [], F, a, _, hl, ha => ⟨hl, fun m => by simpa using ha m⟩
 | e :: L, F, a, hL, hl, ha => by
  obtain ⟨h1, h2⟩ := hL e (by simp)
  obtain ⟨h3, h4⟩ := cw_le hc ha hl h1 h2
  obtain ⟨h5, h6⟩ := fold_le hc (L := L) (fun x hx => hL x (by simp [hx])) h3 h4
  refine ⟨h5, fun m => Int.le_trans (h6 m) ?_⟩
  rw [List.filter_cons]
  by_cases h : e.tt.toNat = m
  ·simp only [h, if_true, decide_true, List.map_cons, List.sum_cons]
   omega
  ·simp only [h, if_false, decide_false, Bool.false_eq_true, if_false]
   omega
theorem step_le {N : Nat} {es : List E4} (he : ∀ e ∈ es, (0 ≤ e.fr ∧ e.fr < N) ∧ (0 ≤ e.tt ∧ e.tt < N) ∧ 1 ≤ e.ws) {f : Nat → Nat} {cs : List Int} (hl : cs.length = N) (hc : ∀ m, cs.getD m 0 ≤ f m) (c : Int) :
  (cstep es c cs).length = N ∧ ∀ m, (cstep es c cs).getD m 0 ≤ (sm (List.range N) (fun p => f p * mA (edNs es) c p m) : Nat) := by
 have h1 := fold_le (N := N) hc (L := selC es c) (F := fun _ => 0) (a := List.replicate cs.length 0) (fun e h => ⟨(he e (mem_selC h)).2.1, (he e (mem_selC h)).2.2⟩) (by rw [List.length_replicate, hl]) (fun m => by
  rw [List.getD_eq_getElem?_getD, List.getElem?_replicate]
  split <;> simp)
 refine ⟨h1.1, fun m => Int.le_trans (h1.2 m) ?_⟩
 rw [← grpA (N := N) f c m (E := edNs es) (fun e h => by
  obtain ⟨e', h1, rfl⟩ := List.mem_map.1 h
  have := (he e' h1).1
  show e'.fr.toNat < N
  omega)]
 rw [Nat.zero_add]
 refine Int.ofNat_le.2 (Nat.le_of_eq ?_)
 unfold edNs selC
 rw [List.filter_filter, List.filter_map, List.map_map]
 congr 1
 refine congrArg (List.map _) ?_
 refine List.filter_congr fun e _ => ?_
 simp only [Function.comp, edN]
 rw [Bool.eq_iff_iff]
 simp only [Bool.and_eq_true, decide_eq_true_eq]
 exact ⟨fun h => decide_eq_true ⟨h.2, h.1⟩, fun h => ⟨(of_decide_eq_true h).2, (of_decide_eq_true h).1⟩⟩
theorem sum_le_sm : ∀ (cs : List Int) (f : Nat → Nat) (j : Nat), (∀ m, cs.getD m 0 ≤ f (j + m)) → cs.sum ≤ (sm ((List.range cs.length).map (j + ·)) f : Nat)
 | [], f, j, _ => by simp [sm]
 | a :: cs, f, j, h => by
  have h0 := h 0
  have ih := sum_le_sm cs f (j + 1) (fun m => by have := h (m + 1); simpa [Nat.add_assoc, Nat.add_comm 1] using this)
  rw [List.length_cons, List.range_succ_eq_map, List.map_cons, sm_cons, List.sum_cons, List.map_map]
  have e1 : List.map ((fun x => j + x) ∘ Nat.succ) (List.range cs.length) = List.map (fun x => j + 1 + x) (List.range cs.length) := List.map_congr_left fun x _ => by simp only [Function.comp]; omega
  rw [e1]
  simp at h0
  rw [Int.natCast_add]
  simp only [Nat.add_zero]
  omega
theorem cloop_le {N B : Nat} {es : List E4} {cls : List Cl} (he : ∀ e ∈ es, (0 ≤ e.fr ∧ e.fr < N) ∧ (0 ≤ e.tt ∧ e.tt < N) ∧ 1 ≤ e.ws) : ∀ (text cs : List Int) (f : Nat → Nat), cs.length = N → (∀ m, cs.getD m 0 ≤ f m) →
  (∀ u : List Int, u.length ≤ text.length → sm (List.range N) (fun m => f m * tot (edNs es) N u m) ≤ B) → (cloop es cls text cs).sum ≤ B
 | [], cs, f, hl, hc, hB => by
  have h1 := sum_le_sm cs f 0 (fun m => by rw [Nat.zero_add]; exact hc m)
  have h2 := hB [] (Nat.le_refl _)
  have e1 : sm (List.range N) (fun m => f m * tot (edNs es) N [] m) = sm ((List.range cs.length).map (0 + ·)) f := by
   rw [hl]
   have : (List.range N).map (0 + ·) = List.range N := by simp
   rw [this]
   exact sm_eq fun m _ => by rw [tot, Nat.mul_one]
  rw [cloop]
  rw [e1] at h2
  omega
 | s :: t, cs, f, hl, hc, hB => by
  rw [cloop]
  split
  ·have h1 := sum_le_sm cs f 0 (fun m => by rw [Nat.zero_add]; exact hc m)
   have h2 := hB [] (Nat.zero_le _)
   have e1 : sm (List.range N) (fun m => f m * tot (edNs es) N [] m) = sm ((List.range cs.length).map (0 + ·)) f := by
    rw [hl]
    have : (List.range N).map (0 + ·) = List.range N := by simp
    rw [this]
    exact sm_eq fun m _ => by rw [tot, Nat.mul_one]
   rw [e1] at h2
   omega
  ·obtain ⟨h1, h2⟩ := step_le he hl hc (clsOf cls s)
   refine cloop_le he t _ _ h1 h2 fun u hu => ?_
   have h3 := hB (clsOf cls s :: u) (by simp only [List.length_cons]; omega)
   refine Nat.le_trans (Nat.le_of_eq ?_) h3
   have e1 : ∀ m, sm (List.range N) (fun p => f p * mA (edNs es) (clsOf cls s) p m) * tot (edNs es) N u m = sm (List.range N) (fun p => f p * mA (edNs es) (clsOf cls s) p m * tot (edNs es) N u m) := fun m => by rw [sm_mulr]
   rw [sm_eq fun m _ => e1 m, sm_swap]
   refine sm_eq fun p _ => ?_
   rw [tot, ← sm_mul]
   exact sm_eq fun m _ => by rw [Nat.mul_assoc]
theorem reach_one {x : Gr} (ok : GrOK x) {rows : List Nat} (hr : WRows (Ere x.edges) x.nodes.length rows) (hno : ∀ s ∈ partsX x rows, ¬ DoubleAt x.edges rows (lowN s)) {a m : Nat} (ha : a < x.nodes.length) (hf : x.first.getD a 0 ≠ 0) (hw : Way (Ere x.edges) a m) (hm : m < x.nodes.length) :
  (∃ s ∈ partsX x rows, s.testBit m = true) ∧ ∀ w, ways (edNs x.edges) m w m ≤ 1 := by
 have hlt : ∀ n, n < rows.length → rows.getD n 0 < 2 ^ 64 := fun n hn => by
  refine Nat.lt_pow_two_of_testBit _ fun k hk => ?_
  cases hb : (rows.getD n 0).testBit k with
  | false => rfl
  | true =>
   have hw := (hr.2 n (by rw [← hr.1]; exact hn) k).1 hb
   have hkN : k < x.nodes.length := by
    cases hw with
    | refl => rw [← hr.1]; exact hn
    | snoc _ he =>
     obtain ⟨e, he, _, h2⟩ := he
     have := (ok.ed e he).2.1
     omega
   have := ok.ln
   omega
 have hnr := nodes_reach hr.1 hr ok hlt
 obtain ⟨h1, h2, h3⟩ := partsN_ok hr ok.ln 64 (reachN rows x.first rows.length) hnr.1 (cntB_le_k _ _) hnr.2
 obtain ⟨s, hs, hb⟩ := h3 m ((reachN_bit rows x.first rows.length m).2 ⟨a, by rw [hr.1]; exact ha, hf, (hr.2 a ha m).2 hw⟩)
 refine ⟨⟨s, hs, hb⟩, fun w => ?_⟩
 rcases Nat.lt_or_ge 1 (ways (edNs x.edges) m w m) with h4 | h4
 ·exfalso
  obtain ⟨q1, q2⟩ := h1.nodes s hs
  obtain ⟨q3, q4⟩ := q1.low q2
  have q5 := h1.eq s hs
  rw [q5, partN_bit] at hb
  obtain ⟨u, hu⟩ := way_ways ok ((hr.2 _ q3 _).1 hb.1)
  obtain ⟨v, hv⟩ := way_ways ok ((hr.2 _ hm _).1 hb.2.2)
  refine hno s hs (dbl_complete ok hr q3 (v := u ++ w ++ v) ?_)
  have e1 := ways_trans (edNs x.edges) (lowN s) m u w m
  have e2 := ways_trans (edNs x.edges) (lowN s) m (u ++ w) v (lowN s)
  have e3 := Nat.mul_le_mul hu h4
  have e4 := Nat.mul_le_mul (Nat.le_trans e3 e1) hv
  omega
 ·exact h4
open Classical in
theorem count_ok {x : Gr} (sx : SomeX x) (ok : GrOK x) {rows : List Nat} (hr : WRows (Ere x.edges) x.nodes.length rows) (hno : ∀ s ∈ partsX x rows, ¬ DoubleAt x.edges rows (lowN s)) {text : List Int} (ht : text.length ≤ 330) :
  (cloop x.edges x.cls text x.first).sum ≤ 1099511627776 := by
 have he : ∀ e ∈ x.edges, (0 ≤ e.fr ∧ e.fr < x.nodes.length) ∧ (0 ≤ e.tt ∧ e.tt < x.nodes.length) ∧ 1 ≤ e.ws := fun e h => ⟨(ok.ed e h).1, (ok.ed e h).2.1, (ok.ed e h).2.2.2.1⟩
 have hN := sx.n1.2
 let s : Nat → Bool := fun m => decide (∃ a, a < x.nodes.length ∧ x.first.getD a 0 ≠ 0 ∧ Way (Ere x.edges) a m)
 have hs : ∀ m, s m = true ↔ ∃ a, a < x.nodes.length ∧ x.first.getD a 0 ≠ 0 ∧ Way (Ere x.edges) a m := fun m => by simp [s]
 have hfew : ∀ u : List Int, u.length ≤ 330 → sm ((List.range x.nodes.length).filter s) (tot (edNs x.edges) x.nodes.length u) ≤ bU 5 := by
  intro u hu
  have h1 := few (E := edNs x.edges) (N := x.nodes.length) (fun e h => by
   obtain ⟨e', h1, rfl⟩ := List.mem_map.1 h
   have := (he e' h1).1
   show e'.fr.toNat < _
   omega) (edNs_ok ok) (edNs_nodup ok) (fun e h => by
   obtain ⟨e', h1, rfl⟩ := List.mem_map.1 h
   obtain ⟨q, _, hq⟩ := sx.edges
   have := (hq.ok e' h1).2.2.2.2.1
   show e'.ws.toNat ≤ 2
   omega) hN _ s rfl (fun p q hp hq hsp hrch => by
   obtain ⟨a, h1, h2, h3⟩ := (hs p).1 hsp
   obtain ⟨w, hw⟩ := hrch
   exact (hs q).2 ⟨a, h1, h2, h3.trans (ways_way ok hp w q hw)⟩) (fun p hp hsp w => by
   obtain ⟨a, h1, h2, h3⟩ := (hs p).1 hsp
   exact (reach_one ok hr hno h1 h2 h3 hp).2 w) u hu
  refine Nat.le_trans h1 ?_
  have h2 : ((List.range x.nodes.length).filter s).length ≤ 5 := Nat.le_trans (List.length_filter_le _ _) (by rw [List.length_range]; exact hN)
  revert h2
  generalize ((List.range x.nodes.length).filter s).length = k
  intro h2
  rcases (by omega : k = 0 ∨ k = 1 ∨ k = 2 ∨ k = 3 ∨ k = 4 ∨ k = 5) with rfl | rfl | rfl | rfl | rfl | rfl <;> decide
 have h1 := cloop_le (B := 2 * bU 5) (cls := x.cls) he text x.first (fun m => (x.first.getD m 0).toNat) ok.lf (fun m => Int.self_le_toNat _) (fun u hu => by
  rw [sm_split s _ (List.range x.nodes.length)]
  have e1 : sm ((List.range x.nodes.length).filter fun m => !s m) (fun m => (x.first.getD m 0).toNat * tot (edNs x.edges) x.nodes.length u m) = 0 := (sm_eq fun m hm => by
   rw [List.mem_filter, List.mem_range, Bool.not_eq_true'] at hm
   have h2 : x.first.getD m 0 = 0 := by
    rcases Decidable.em (x.first.getD m 0 = 0) with h2 | h2
    ·exact h2
    ·have := (hs m).2 ⟨m, hm.1, h2, .refl m⟩
     rw [hm.2] at this
     cases this
   rw [h2]
   exact Nat.zero_mul _).trans (sm_zero _)
  rw [e1, Nat.add_zero]
  refine Nat.le_trans (sm_le (g := fun m => 2 * tot (edNs x.edges) x.nodes.length u m) fun m hm => Nat.mul_le_mul_right _ ?_) ?_
  ·rw [List.getD_eq_getElem?_getD]
   cases h3 : x.first[m]? with
   | none => simp
   | some v =>
    have := (sx.first v (List.mem_of_getElem? h3)).2
    simp
    omega
  ·rw [sm_mul]
   exact Nat.mul_le_mul_left _ (hfew u (by omega)))
 refine Int.le_trans h1 ?_
 decide
end Go.Proofs.YtphnbmdcgcchaaaDoor
