/- Part 41 of the proof. No condition: every lemma says its own. -/
import Derived.Test.YtphnbmdcgcchaaaDoorEbg
import Derived.Test.YtphnbmdcgcchaaaDoorEbf
import Derived.Test.YtphnbmdcgcchaaaDoorEbi
import Derived.Test.YtphnbmdcgcchaaaDoorEbk
import Derived.Test.YtphnbmdcgcchaaaDoorEbn
import Derived.Test.YtphnbmdcgcchaaaDoorEbe
import Derived.Test.YtphnbmdcgcchaaaDoorEaw
import Derived.Test.YtphnbmdcgcchaaaDoorEbm
import Derived.Test.YtphnbmdcgcchaaaDoorEaq
import Derived.Test.YtphnbmdcgcchaaaDoorEao
namespace Go.Proofs.YtphnbmdcgcchaaaDoor
open Go.RowKit Go.Sort Go.BigFrame
set_option maxRecDepth 100000
set_option maxHeartbeats 16000000
theorem loM {x : Gr} (h : SomeX x) {v : List Int} (hv : ∀ c ∈ v, 0 ≤ c ∧ c < x.cls.length) : ∀ s ∈ loW x.cls v, M64 s := by
 obtain ⟨a0, c0, a1, c1, hc⟩ := h.cls
 intro s hs
 obtain ⟨c, hcm, rfl⟩ := List.mem_map.1 hs
 have h1 := hv c hcm
 rw [hc] at h1 ⊢
 have h2 : c < 2 := h1.2
 rcases (by omega : c = 0 ∨ c = 1) with rfl | rfl
 ·show M64 97
  exact ⟨by decide, by decide⟩
 ·show M64 98
  exact ⟨by decide, by decide⟩
theorem repS_mem {t w : List Int} : ∀ {k : Nat} {s : Int}, s ∈ repS t w k → s ∈ t ∨ s ∈ w
 | 0, s, h => .inl h
 | k + 1, s, h => by
  rw [repS] at h
  rcases List.mem_append.1 h with h | h
  ·exact repS_mem h
  ·exact .inr h
theorem repS_len (t w : List Int) : ∀ k, (repS t w k).length = t.length + k * w.length
 | 0 => by simp [repS]
 | k + 1 => by rw [repS, List.length_append, repS_len t w k, Nat.succ_mul]; omega
def frB (l : List Int) : List Bool := l.map fun v => decide (0 < v)
theorem frB_get {l : List Int} {n : Nat} (h : knB (frB l) n = true) : 1 ≤ l.getD n 0 := by
 have hn := knB_lt h
 have hn2 : n < l.length := by simpa [frB] using hn
 simp only [knB, frB, List.getD_eq_getElem?_getD, List.getElem?_map, List.getElem?_eq_getElem hn2, Option.map_some, Option.getD_some, decide_eq_true_eq] at h
 rw [List.getD_eq_getElem?_getD, List.getElem?_eq_getElem hn2, Option.getD_some]
 omega
theorem frB_of {x : Gr} (ok : GrOK x) {a : Nat} (ha : a < x.nodes.length) (h : x.first.getD a 0 ≠ 0) : knB (frB x.first) a = true := by
 have hl : a < x.first.length := by rw [ok.lf]; exact ha
 have h1 := (ok.first (x.first[a]) (List.getElem_mem hl)).1
 rw [List.getD_eq_getElem?_getD, List.getElem?_eq_getElem hl, Option.getD_some] at h
 simp only [knB, frB, List.getD_eq_getElem?_getD, List.getElem?_map, List.getElem?_eq_getElem hl, Option.map_some, Option.getD_some, decide_eq_true_eq]
 omega
theorem sum_one {α : Type} (f : α → Nat) : ∀ {l : List α}, 1 ≤ (l.map f).sum → ∃ x ∈ l, 1 ≤ f x
 | [], h => by simp at h
 | a :: l, h => by
  rw [List.map_cons, List.sum_cons] at h
  rcases Nat.eq_zero_or_pos (f a) with h0 | h0
  ·obtain ⟨x, hx, h1⟩ := sum_one f (l := l) (by omega)
   exact ⟨x, by simp [hx], h1⟩
  ·exact ⟨a, by simp, h0⟩
theorem sum_two {α : Type} (f : α → Nat) : ∀ {l : List α}, l.Nodup → 2 ≤ (l.map f).sum → (∃ x ∈ l, 2 ≤ f x) ∨ ∃ x ∈ l, ∃ y ∈ l, x ≠ y ∧ 1 ≤ f x ∧ 1 ≤ f y
 | [], _, h => by simp at h
 | a :: l, hn, h => by
  rw [List.map_cons, List.sum_cons] at h
  obtain ⟨n1, n2⟩ := List.nodup_cons.1 hn
  rcases Nat.lt_or_ge 1 (f a) with h2 | h2
  ·exact .inl ⟨a, by simp, h2⟩
  ·rcases Nat.eq_zero_or_pos (f a) with h0 | h0
   ·rcases sum_two f n2 (by omega) with ⟨x, hx, h1⟩ | ⟨x, hx, y, hy, h1⟩
    ·exact .inl ⟨x, by simp [hx], h1⟩
    ·exact .inr ⟨x, by simp [hx], y, by simp [hy], h1⟩
   ·obtain ⟨y, hy, h1⟩ := sum_one f (l := l) (by omega)
    exact .inr ⟨a, by simp, y, by simp [hy], fun e => n1 (e ▸ hy), h0, h1⟩
theorem ways_one {E : List Ed} {n : Nat} {w : List Int} {c : Int} {p : Nat} (h : 1 ≤ ways E n (w ++ [c]) p) : ∃ e ∈ E, e.cl = c ∧ e.tt = p ∧ 1 ≤ ways E n w e.fr := by
 rw [ways_snoc] at h
 obtain ⟨e, he, h1⟩ := sum_one (fun e : Ed => ways E n w e.fr * e.ws) h
 rw [List.mem_filter] at he
 have h2 := he.2
 simp only [decide_eq_true_eq] at h2
 exact ⟨e, he.1, h2.1, h2.2, Nat.pos_of_mul_pos_right h1⟩
theorem ways_two {E : List Ed} (hn : E.Nodup) {n : Nat} {w : List Int} {c : Int} {p : Nat} (h : 2 ≤ ways E n (w ++ [c]) p) :
  (∃ e ∈ E, e.cl = c ∧ e.tt = p ∧ (2 ≤ ways E n w e.fr ∨ (1 ≤ ways E n w e.fr ∧ 1 < e.ws))) ∨ ∃ e ∈ E, ∃ f ∈ E, e ≠ f ∧ (e.cl = c ∧ e.tt = p ∧ 1 ≤ ways E n w e.fr) ∧ (f.cl = c ∧ f.tt = p ∧ 1 ≤ ways E n w f.fr) := by
 rw [ways_snoc] at h
 rcases sum_two (fun e : Ed => ways E n w e.fr * e.ws) (hn.filter _) h with ⟨e, he, h1⟩ | ⟨e, he, f, hf, h0, h1, h2⟩
 ·rw [List.mem_filter] at he
  have h2 := he.2
  simp only [decide_eq_true_eq] at h2
  refine .inl ⟨e, he.1, h2.1, h2.2, ?_⟩
  have h3 := Nat.pos_of_mul_pos_right (show 0 < ways E n w e.fr * e.ws by omega)
  rcases Nat.lt_or_ge 1 (ways E n w e.fr) with h4 | h4
  ·exact .inl h4
  ·have h5 : ways E n w e.fr = 1 := by omega
   rw [h5, Nat.one_mul] at h1
   exact .inr ⟨h3, h1⟩
 ·rw [List.mem_filter] at he hf
  have e2 := he.2
  have f2 := hf.2
  simp only [decide_eq_true_eq] at e2 f2
  exact .inr ⟨e, he.1, f, hf.1, h0, ⟨e2.1, e2.2, Nat.pos_of_mul_pos_right h1⟩, ⟨f2.1, f2.2, Nat.pos_of_mul_pos_right h2⟩⟩
theorem pairs_all {E : List Ed} (hE : EdOK E) (hn : E.Nodup) {part good : Nat → Prop} {n : Nat} (hp : ∀ e ∈ E, ∀ v, 1 ≤ ways E n v e.fr → good e.tt → part e.tt ∧ good e.fr) (w : List Int) :
  (∀ p, good p → 1 ≤ ways E n w p → ∃ d, Lead (PSucc E part) (n, n, false) w (p, p, d)) ∧ (∀ p, good p → 2 ≤ ways E n w p → Lead (PSucc E part) (n, n, false) w (p, p, true)) ∧
  (∀ p q, good p → good q → p < q → 1 ≤ ways E n w p → 1 ≤ ways E n w q → Lead (PSucc E part) (n, n, false) w (p, q, true)) := by
 induction w using snoc_ind with
 | h0 =>
  refine ⟨fun p _ h => ?_, fun p _ h => ?_, fun p q _ _ hpq h1 h2 => ?_⟩
  ·rw [ways_nil] at h
   split at h
   ·rename_i e; subst e; exact ⟨false, .nil⟩
   ·omega
  ·rw [ways_nil] at h
   split at h <;> omega
  ·rw [ways_nil] at h1 h2
   split at h1 <;> split at h2 <;> omega
 | h1 w c ih =>
  obtain ⟨i1, i2, i3⟩ := ih
  have one : ∀ e ∈ E, e.cl = c → good e.tt → ∀ d, Lead (PSucc E part) (n, n, false) w (e.fr, e.fr, d) → 1 ≤ ways E n w e.fr → Lead (PSucc E part) (n, n, false) (w ++ [c]) (e.tt, e.tt, d || decide (1 < e.ws)) := by
   intro e he hc hg d hl h1
   obtain ⟨p1, _⟩ := hp e he w h1 hg
   refine .snoc hl ⟨e, he, e, he, rfl, rfl, hc, hc, p1, p1, ?_⟩
   simp
  have two : ∀ e ∈ E, ∀ f ∈ E, e.cl = c → f.cl = c → good e.tt → good f.tt → e.fr ≠ f.fr → 1 ≤ ways E n w e.fr → 1 ≤ ways E n w f.fr → Lead (PSucc E part) (n, n, false) (w ++ [c]) (min e.tt f.tt, max e.tt f.tt, true) := by
   intro e he f hf hc hc2 hg hg2 hne h1 h2
   obtain ⟨p1, g1⟩ := hp e he w h1 hg
   obtain ⟨p2, g2⟩ := hp f hf w h2 hg2
   rcases Nat.lt_or_gt_of_ne hne with hlt | hlt
   ·refine .snoc (i3 _ _ g1 g2 hlt h1 h2) ⟨e, he, f, hf, rfl, rfl, hc, hc2, p1, p2, ?_⟩
    simp
   ·refine .snoc (i3 _ _ g2 g1 hlt h2 h1) ⟨f, hf, e, he, rfl, rfl, hc2, hc, p2, p1, ?_⟩
    simp [Nat.min_comm, Nat.max_comm]
  refine ⟨fun p hg h => ?_, fun p hg h => ?_, fun p q hg hg2 hpq h1 h2 => ?_⟩
  ·obtain ⟨e, he, hc, rfl, h1⟩ := ways_one h
   obtain ⟨_, g1⟩ := hp e he w h1 hg
   obtain ⟨d, hl⟩ := i1 _ g1 h1
   exact ⟨_, one e he hc hg d hl h1⟩
  ·rcases ways_two hn h with ⟨e, he, hc, rfl, h1 | ⟨h1, h2⟩⟩ | ⟨e, he, f, hf, hne, ⟨hc, ht, h1⟩, ⟨hc2, ht2, h2⟩⟩
   ·obtain ⟨_, g1⟩ := hp e he w (by omega) hg
    have := one e he hc hg true (i2 _ g1 h1) (by omega)
    simpa using this
   ·obtain ⟨_, g1⟩ := hp e he w h1 hg
    obtain ⟨d, hl⟩ := i1 _ g1 h1
    have := one e he hc hg d hl h1
    simpa [h2] using this
   ·have := two e he f hf hc hc2 (ht ▸ hg) (ht2 ▸ hg) (fun h => hne (hE.2 e he f hf h (by rw [ht, ht2]) (by rw [hc, hc2]))) h1 h2
    rw [ht, ht2, Nat.min_self, Nat.max_self] at this
    exact this
  ·obtain ⟨e, he, hc, ht, e1⟩ := ways_one h1
   obtain ⟨f, hf, hc2, ht2, f1⟩ := ways_one h2
   have hef : e ≠ f := fun h => by rw [h, ht2] at ht; omega
   have hmm : min e.tt f.tt = p ∧ max e.tt f.tt = q := by rw [ht, ht2]; omega
   by_cases hfr : e.fr = f.fr
   ·obtain ⟨p1, g1⟩ := hp e he w e1 (ht ▸ hg)
    obtain ⟨p2, _⟩ := hp f hf w f1 (ht2 ▸ hg2)
    obtain ⟨d, hl⟩ := i1 _ g1 e1
    refine .snoc hl ⟨e, he, f, hf, rfl, hfr.symm, hc, hc2, p1, p2, ?_⟩
    rw [hmm.1, hmm.2]
    simp [hef]
   ·have := two e he f hf hc hc2 (ht ▸ hg) (ht2 ▸ hg2) hfr e1 f1
    rw [hmm.1, hmm.2] at this
    exact this
def triB (s : Nat × Nat × Bool) : Tri := ((s.1 : Int), (s.2.1 : Int), if s.2.2 = true then 1 else 0)
theorem psucc_dsucc {es : List E4} {part N : Nat} (he : ∀ e ∈ es, (0 ≤ e.fr ∧ e.fr < N) ∧ (0 ≤ e.tt ∧ e.tt < N) ∧ 1 ≤ e.ws) {s t : Nat × Nat × Bool} {c : Int} (h : PSucc (edNs es) (fun m => part.testBit m = true) s c t) : DSucc es part (triB s) c (triB t) := by
 obtain ⟨e', h1, f', h2, h3, h4, h5, h6, h7, h8, rfl⟩ := h
 obtain ⟨e, m1, rfl⟩ := List.mem_map.1 h1
 obtain ⟨f, m2, rfl⟩ := List.mem_map.1 h2
 obtain ⟨a1, a2, a3⟩ := he e m1
 obtain ⟨b1, b2, b3⟩ := he f m2
 have hinj : (edN e = edN f) ↔ e = f := by
  constructor
  ·intro h
   cases e; cases f
   simp only [edN, Ed.mk.injEq] at h
   simp only at a1 a2 a3 b1 b2 b3
   simp only [E4.mk.injEq]
   omega
  ·rintro rfl; rfl
 simp only [edN] at h3 h4 h5 h6 h7 h8
 refine ⟨e, m1, f, m2, ?_, ?_, h5, h6, h7, h8, ?_⟩
 ·show e.fr = (s.1 : Int); omega
 ·show f.fr = (s.2.1 : Int); omega
 ·simp only [triB, dTo, edN, Prod.mk.injEq]
  refine ⟨by omega, by omega, ?_⟩
  have hw : (1 < e.ws.toNat) ↔ 1 < e.ws := by omega
  have hinj' : ((⟨e.fr.toNat, e.tt.toNat, e.cl, e.ws.toNat⟩ : Ed) = ⟨f.fr.toNat, f.tt.toNat, f.cl, f.ws.toNat⟩) ↔ e = f := hinj
  simp only [ne_eq, hinj', hw]
  by_cases q1 : e = f
  ·subst q1
   by_cases q2 : 1 < e.ws
   ·simp [q2]
   ·simp [q2]
  ·simp [q1]
theorem lead_dsucc {es : List E4} {part N : Nat} (he : ∀ e ∈ es, (0 ≤ e.fr ∧ e.fr < N) ∧ (0 ≤ e.tt ∧ e.tt < N) ∧ 1 ≤ e.ws) {s t : Nat × Nat × Bool} {v : List Int} (h : Lead (PSucc (edNs es) (fun m => part.testBit m = true)) s v t) : Lead (DSucc es part) (triB s) v (triB t) := by
 induction h with
 | nil => exact .nil
 | snoc _ k ih => exact .snoc ih (psucc_dsucc he k)
theorem edNs_nodup {x : Gr} (ok : GrOK x) : (edNs x.edges).Nodup := by
 have he : ∀ e ∈ x.edges, (0 ≤ e.fr ∧ e.fr < x.nodes.length) ∧ (0 ≤ e.tt ∧ e.tt < x.nodes.length) ∧ 1 ≤ e.ws := fun e h => ⟨(ok.ed e h).1, (ok.ed e h).2.1, (ok.ed e h).2.2.2.1⟩
 unfold edNs
 refine List.pairwise_iff_getElem.2 fun i j hi hj hij e => ?_
 simp only [List.length_map] at hi hj
 simp only [List.getElem_map] at e
 have h1 := ord_all ok.ord j i hij hj
 rw [cmpE_lt] at h1
 have e1 := he _ (List.getElem_mem hi)
 have e2 := he _ (List.getElem_mem hj)
 simp only [edN, Ed.mk.injEq] at e
 omega
theorem ways_way {x : Gr} (ok : GrOK x) {n : Nat} (hn : n < x.nodes.length) (w : List Int) : ∀ p, 1 ≤ ways (edNs x.edges) n w p → Way (Ere x.edges) n p := by
 induction w using snoc_ind with
 | h0 =>
  intro p h
  rw [ways_nil] at h
  split at h
  ·rename_i e; subst e; exact .refl _
  ·omega
 | h1 w c ih =>
  intro p h
  obtain ⟨e', he, _, rfl, h1⟩ := ways_one h
  obtain ⟨e, m1, rfl⟩ := List.mem_map.1 he
  have h2 := ok.ed e m1
  refine .snoc (ih _ h1) ⟨e, m1, ?_, ?_⟩
  ·show e.fr = (e.fr.toNat : Int); omega
  ·show e.tt = (e.tt.toNat : Int); omega
theorem way_ways {x : Gr} (ok : GrOK x) {n p : Nat} (h : Way (Ere x.edges) n p) : ∃ w, 1 ≤ ways (edNs x.edges) n w p := by
 induction h with
 | refl => exact ⟨[], by rw [ways_nil, if_pos rfl]; exact Nat.le_refl 1⟩
 | snoc _ k ih =>
  obtain ⟨w, hw⟩ := ih
  obtain ⟨e, he, h1, h2⟩ := k
  have h3 := ways_step (n := n) (w := w) (List.mem_map_of_mem (f := edN) he)
  have h4 := ok.ed e he
  refine ⟨w ++ [e.cl], Nat.le_trans ?_ (show ways (edNs x.edges) n (w ++ [e.cl]) e.tt.toNat ≤ _ by rw [h2]; exact Nat.le_refl _)⟩
  refine Nat.le_trans ?_ h3
  have h5 : (edN e).fr = _ := show e.fr.toNat = _ by rw [h1]
  rw [h5]
  refine Nat.mul_pos hw ?_
  show 0 < e.ws.toNat
  omega
theorem dbl_complete {x : Gr} (ok : GrOK x) {rows : List Nat} (hr : WRows (Ere x.edges) x.nodes.length rows) {n : Nat} (hn : n < x.nodes.length) {v : List Int} (h : 2 ≤ ways (edNs x.edges) n v n) : DoubleAt x.edges rows n := by
 have he : ∀ e ∈ x.edges, (0 ≤ e.fr ∧ e.fr < x.nodes.length) ∧ (0 ≤ e.tt ∧ e.tt < x.nodes.length) ∧ 1 ≤ e.ws := fun e h => ⟨(ok.ed e h).1, (ok.ed e h).2.1, (ok.ed e h).2.2.2.1⟩
 have h1 := (pairs_all (edNs_ok ok) (edNs_nodup ok) (part := fun m => (partN rows n).testBit m = true) (good := fun m => m < x.nodes.length ∧ Way (Ere x.edges) m n) (n := n) (fun e' he' w hw hg => by
  obtain ⟨e, h1, rfl⟩ := List.mem_map.1 he'
  have h2 := he e h1
  have h3 : Ere x.edges (edN e).fr (edN e).tt := ⟨e, h1, by show e.fr = (e.fr.toNat : Int); omega, by show e.tt = (e.tt.toNat : Int); omega⟩
  have h4 := ways_way ok hn w _ hw
  refine ⟨(partN_bit _ _ _).2 ⟨(hr.2 n hn _).2 (.snoc h4 h3), by rw [hr.1]; exact hg.1, (hr.2 _ hg.1 _).2 hg.2⟩, ?_, Way.cons h3 hg.2⟩
  show e.fr.toNat < _
  omega) v).2.1 n ⟨hn, .refl _⟩ h
 have h2 := lead_dsucc he h1
 exact ⟨v, h2⟩
theorem Lead.trace {α : Type} {R : α → Int → α → Prop} {dom : List α} {s t : α} {w : List Int} (h : Lead R s w t) (hs : s ∈ dom) (hc : ∀ s c t, s ∈ dom → R s c t → t ∈ dom) :
  ∃ tr : List α, tr.length = w.length + 1 ∧ (∀ x ∈ tr, x ∈ dom) ∧ tr[w.length]? = some t ∧ ∀ i x, tr[i]? = some x → Lead R s (w.take i) x ∧ Lead R x (w.drop i) t := by
 induction h with
 | nil => exact ⟨[s], rfl, by simpa using hs, rfl, fun i x hx => by
   cases i with
   | zero => simp at hx; subst hx; exact ⟨.nil, .nil⟩
   | succ i => simp at hx⟩
 | @snoc w t c u h k ih =>
  obtain ⟨tr, h1, h2, h3, h4⟩ := ih
  have htd : t ∈ dom := h2 t (List.mem_of_getElem? h3)
  refine ⟨tr ++ [u], by simp [h1], ?_, ?_, ?_⟩
  ·intro x hx
   rcases List.mem_append.1 hx with hx | hx
   ·exact h2 x hx
   ·simp at hx; subst hx; exact hc t c _ htd k
  ·rw [List.length_append, List.length_singleton, List.getElem?_append_right (by omega), h1]
   simp
  ·intro i x hx
   rcases Nat.lt_or_ge i tr.length with hi | hi
   ·rw [List.getElem?_append_left hi] at hx
    obtain ⟨h5, h6⟩ := h4 i x hx
    rw [List.take_append_of_le_length (by omega), List.drop_append_of_le_length (by omega)]
    exact ⟨h5, .snoc h6 k⟩
   ·have hi2 : i = tr.length := by
     have := (List.getElem?_eq_some_iff.1 hx).1
     simp at this
     omega
    subst hi2
    rw [List.getElem?_append_right (Nat.le_refl _), Nat.sub_self] at hx
    simp at hx
    subst hx
    rw [h1, List.take_of_length_le (by simp), List.drop_of_length_le (by simp)]
    exact ⟨.snoc h k, .nil⟩
theorem nodup_len {α : Type} [DecidableEq α] : ∀ {l dom : List α}, l.Nodup → (∀ x ∈ l, x ∈ dom) → l.length ≤ dom.length
 | [], _, _, _ => Nat.zero_le _
 | x :: l, dom, hn, hd => by
  have hx := hd x (by simp)
  obtain ⟨hn1, hn2⟩ := List.nodup_cons.1 hn
  have := nodup_len (l := l) (dom := dom.erase x) hn2 fun y hy => by
   have hne : y ≠ x := fun e => hn1 (e ▸ hy)
   exact (List.mem_erase_of_ne hne).2 (hd y (by simp [hy]))
  rw [List.length_erase_of_mem hx] at this
  have hp := List.length_pos_of_mem hx
  rw [List.length_cons]
  omega
theorem Least.short {α : Type} [DecidableEq α] {R : α → Int → α → Prop} {dom : List α} {s t : α} {w : List Int} (h : Least R s w t) (hs : s ∈ dom) (hc : ∀ s c t, s ∈ dom → R s c t → t ∈ dom) : w.length + 1 ≤ dom.length := by
 obtain ⟨tr, h1, h2, h3, h4⟩ := h.1.trace hs hc
 rw [← h1]
 refine nodup_len (List.pairwise_iff_getElem.2 fun i j hi hj hij e => ?_) h2
 have e1 : tr[i]? = some tr[i] := List.getElem?_eq_getElem hi
 have e2 : tr[j]? = some tr[i] := by rw [e]; exact List.getElem?_eq_getElem hj
 have l1 := (h4 i _ e1).1.trans (h4 j _ e2).2
 have hlen : (w.take i ++ w.drop j).length < w.length := by
  simp only [List.length_append, List.length_take, List.length_drop]
  omega
 rcases h.2 _ l1 with e3 | e3
 ·rw [e3] at hlen; omega
 ·rcases e3 with e3 | ⟨e3, _⟩ <;> omega
theorem sum_add {α : Type} (f g : α → Nat) : ∀ l : List α, (l.map f).sum + (l.map g).sum = (l.map fun x => f x + g x).sum
 | [] => rfl
 | a :: l => by
  have := sum_add f g l
  simp only [List.map_cons, List.sum_cons]
  omega
theorem ways_trans2 (E : List Ed) (n m1 m2 : Nat) (hm : m1 ≠ m2) (v : List Int) (w : List Int) : ∀ k, ways E n v m1 * ways E m1 w k + ways E n v m2 * ways E m2 w k ≤ ways E n (v ++ w) k := by
 induction w using snoc_ind with
 | h0 =>
  intro k
  rw [ways_nil, ways_nil, List.append_nil]
  by_cases h1 : k = m1
  ·subst h1
   rw [if_pos rfl, if_neg hm]
   omega
  ·rw [if_neg h1]
   split
   ·rename_i h; subst h; omega
   ·omega
 | h1 w c ih =>
  intro k
  rw [← List.append_assoc, ways_snoc, ways_snoc, ways_snoc, sum_mul, sum_mul, sum_add]
  refine sum_le fun e _ => ?_
  rw [← Nat.mul_assoc, ← Nat.mul_assoc, ← Nat.add_mul]
  exact Nat.mul_le_mul_right _ (ih e.fr)
theorem bridge_rep {E : List Ed} {a b : Nat} (hab : a ≠ b) {w : List Int} (h1 : 1 ≤ ways E a w a) (h2 : 1 ≤ ways E a w b) (h3 : 1 ≤ ways E b w b) : ∀ k, k ≤ ways E a (rep w k) b
 | 0 => Nat.zero_le _
 | k + 1 => by
  have ih := bridge_rep hab h1 h2 h3 k
  have h4 := ways_rep h1 k
  rw [Nat.one_pow] at h4
  have h5 := ways_trans2 E a a b hab (rep w k) w b
  rw [rep]
  have h6 := Nat.mul_le_mul h4 h2
  have h7 := Nat.mul_le_mul ih h3
  omega
theorem bsucc_ways {x : Gr} (ok : GrOK x) {p0 p1 p2 a b : Nat} {v : List Int} {t : Tri} (h : Lead (BSucc x.edges p0 p1 p2) ((a : Int), (a : Int), (b : Int)) v t) :
  (0 ≤ t.1 ∧ 0 ≤ t.2.1 ∧ 0 ≤ t.2.2) ∧ 1 ≤ ways (edNs x.edges) a v t.1.toNat ∧ 1 ≤ ways (edNs x.edges) a v t.2.1.toNat ∧ 1 ≤ ways (edNs x.edges) b v t.2.2.toNat := by
 induction h with
 | nil =>
  refine ⟨⟨by simp, by simp, by simp⟩, ?_, ?_, ?_⟩ <;> simp [ways_nil]
 | snoc _ k ih =>
  obtain ⟨⟨n1, n2, n3⟩, i1, i2, i3⟩ := ih
  obtain ⟨e, he, f, hf, g, hg, h1, h2, h3, rfl, h5, h6, _, _, _, rfl⟩ := k
  have oe := ok.ed e he
  have of_ := ok.ed f hf
  have og := ok.ed g hg
  have one : ∀ (n : Nat) (w : List Int) (d : E4) (q : Int), d ∈ x.edges → d.fr = q → 1 ≤ ways (edNs x.edges) n w q.toNat → 1 ≤ d.ws → 1 ≤ ways (edNs x.edges) n (w ++ [d.cl]) d.tt.toNat := by
   intro n w d q hd hq hw h1
   have h3 := ways_step (n := n) (w := w) (List.mem_map_of_mem (f := edN) hd)
   refine Nat.le_trans ?_ h3
   refine Nat.mul_pos ?_ ?_
   ·show 0 < ways (edNs x.edges) n w d.fr.toNat
    rw [hq]; exact hw
   ·show 0 < d.ws.toNat
    omega
  refine ⟨⟨oe.2.1.1, of_.2.1.1, og.2.1.1⟩, ?_, ?_, ?_⟩
  ·exact one a _ e _ he h1 i1 oe.2.2.2.1
  ·have := one a _ f _ hf h2 i2 of_.2.2.2.1
   rw [h5] at this
   exact this
  ·have := one b _ g _ hg h3 i3 og.2.2.2.1
   rw [h6] at this
   exact this
theorem bridge_ways {x : Gr} (ok : GrOK x) {p0 p1 p2 a b : Nat} {v : List Int} (h : Lead (BSucc x.edges p0 p1 p2) ((a : Int), (a : Int), (b : Int)) v ((a : Int), (b : Int), (b : Int))) :
  1 ≤ ways (edNs x.edges) a v a ∧ 1 ≤ ways (edNs x.edges) a v b ∧ 1 ≤ ways (edNs x.edges) b v b := by
 have h1 := (bsucc_ways ok h).2
 simp only [Int.toNat_natCast] at h1
 exact h1
theorem bridge_double {x : Gr} (ok : GrOK x) {a b : Nat} (hab : a ≠ b) {v : List Int} (h : 1 ≤ ways (edNs x.edges) a v a ∧ 1 ≤ ways (edNs x.edges) a v b ∧ 1 ≤ ways (edNs x.edges) b v b) (hb : Way (Ere x.edges) b a) : ∃ w, 2 ≤ ways (edNs x.edges) a w a := by
 obtain ⟨u, hu⟩ := way_ways ok hb
 refine ⟨(v ++ v) ++ u, ?_⟩
 have h1 := ways_trans2 (edNs x.edges) a a b hab v v b
 have h2 := ways_trans (edNs x.edges) a b (v ++ v) u a
 have h3 := Nat.mul_le_mul h.1 h.2.1
 have h4 := Nat.mul_le_mul h.2.1 h.2.2
 have h5 := Nat.mul_le_mul (show 2 ≤ ways (edNs x.edges) a (v ++ v) b by omega) hu
 omega
def inN (N s : Nat) : List Nat := (List.range N).filter fun i => s.testBit i
def domP (N p0 p2 : Nat) : List Tri := (inN N p0).flatMap fun (a : Nat) => (List.range N).flatMap fun (b : Nat) => (inN N p2).map fun (c : Nat) => ((a : Int), (b : Int), (c : Int))
theorem domP_len (N p0 p2 : Nat) : (domP N p0 p2).length = (inN N p0).length * (N * (inN N p2).length) := by
 simp [domP, List.length_flatMap, List.map_const', List.sum_replicate_nat]
theorem domP_mem {N p0 p2 a b c : Nat} : ((a : Int), (b : Int), (c : Int)) ∈ domP N p0 p2 ↔ (a < N ∧ p0.testBit a = true) ∧ b < N ∧ c < N ∧ p2.testBit c = true := by
 simp only [domP, inN, List.mem_flatMap, List.mem_map, List.mem_filter, List.mem_range, Prod.mk.injEq]
 constructor
 ·rintro ⟨a', ⟨h1, h2⟩, b', h3, c', ⟨h4, h5⟩, h6, h7, h8⟩
  have e1 : a' = a := by omega
  have e2 : b' = b := by omega
  have e3 : c' = c := by omega
  subst e1; subst e2; subst e3
  exact ⟨⟨h1, h2⟩, h3, h4, h5⟩
 ·rintro ⟨⟨h1, h2⟩, h3, h4, h5⟩
  exact ⟨a, ⟨h1, h2⟩, b, h3, c, ⟨h4, h5⟩, rfl, rfl, rfl⟩
theorem inN_two (N p q : Nat) (h : ∀ i, p.testBit i = true → q.testBit i = true → False) : (inN N p).length + (inN N q).length ≤ N := by
 have : ∀ l : List Nat, (l.filter fun i => p.testBit i).length + (l.filter fun i => q.testBit i).length ≤ l.length := by
  intro l
  induction l with
  | nil => simp
  | cons a l ih =>
   have := h a
   rw [List.filter_cons, List.filter_cons]
   cases hp : p.testBit a <;> cases hq : q.testBit a <;> simp_all <;> omega
 have h1 := this (List.range N)
 rw [List.length_range] at h1
 exact h1
theorem bridge_short {x : Gr} (ok : GrOK x) {p0 p1 p2 a b : Nat} {v : List Int} (hN : x.nodes.length ≤ 5) (h : Least (BSucc x.edges p0 p1 p2) ((a : Int), (a : Int), (b : Int)) v ((a : Int), (b : Int), (b : Int)))
  (ha : a < x.nodes.length) (hb : b < x.nodes.length) (pa : p0.testBit a = true) (pb : p2.testBit b = true) (hd : ∀ i, p0.testBit i = true → p2.testBit i = true → False) : v.length ≤ 29 := by
 have h1 := h.short (dom := domP x.nodes.length p0 p2) (domP_mem.2 ⟨⟨ha, pa⟩, ha, hb, pb⟩) (fun s c t _ hs => by
  obtain ⟨e, he, f, hf, g, hg, _, _, _, _, _, _, q0, _, q2, rfl⟩ := hs
  have oe := (ok.ed e he).2.1
  have of_ := (ok.ed f hf).2.1
  have og := (ok.ed g hg).2.1
  have := (domP_mem (N := x.nodes.length) (p0 := p0) (p2 := p2) (a := e.tt.toNat) (b := f.tt.toNat) (c := g.tt.toNat)).2 ⟨⟨by omega, q0⟩, by omega, by omega, q2⟩
  rw [Int.toNat_of_nonneg oe.1, Int.toNat_of_nonneg of_.1, Int.toNat_of_nonneg og.1] at this
  exact this)
 rw [domP_len] at h1
 have h2 := inN_two x.nodes.length p0 p2 hd
 obtain ⟨A, hA⟩ : ∃ A, A = (inN x.nodes.length p0).length := ⟨_, rfl⟩
 obtain ⟨B, hB⟩ : ∃ B, B = (inN x.nodes.length p2).length := ⟨_, rfl⟩
 obtain ⟨N, hN'⟩ : ∃ N, N = x.nodes.length := ⟨_, rfl⟩
 rw [← hA, ← hB, ← hN'] at h1 h2
 rw [← hN'] at hN
 have h3 : A * (N * B) ≤ 30 := by
  have h4 : A ≤ 5 := by omega
  have h5 : A * B ≤ 6 := by
   rcases (by omega : A = 0 ∨ A = 1 ∨ A = 2 ∨ A = 3 ∨ A = 4 ∨ A = 5) with rfl | rfl | rfl | rfl | rfl | rfl <;> omega
  calc A * (N * B) = N * (A * B) := by rw [Nat.mul_left_comm]
   _ ≤ 5 * 6 := Nat.mul_le_mul hN h5
 omega
end Go.Proofs.YtphnbmdcgcchaaaDoor
