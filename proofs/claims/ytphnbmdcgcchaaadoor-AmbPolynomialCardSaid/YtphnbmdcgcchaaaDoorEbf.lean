/- Part 32 of the proof. No condition: every lemma says its own. -/
import Derived.Test.YtphnbmdcgcchaaaDoorEbe
import Derived.Test.YtphnbmdcgcchaaaDoorEaw
import Derived.Test.YtphnbmdcgcchaaaDoorEaf
import Derived.Test.YtphnbmdcgcchaaaDoorEbd
namespace Go.Proofs.YtphnbmdcgcchaaaDoor
open Go.RowKit Go.Sort Go.BigFrame
set_option maxRecDepth 100000
set_option maxHeartbeats 16000000
def knB (kn : List Bool) (m : Nat) : Bool := kn.getD m false
def kstep (kn : List Bool) (e : E4) : List Bool := if knB kn e.fr.toNat = true ∧ knB kn e.tt.toNat = false then kn.set e.tt.toNat true else kn
def wround (es : List E4) (kn : List Bool) : List Bool := es.foldl kstep kn
def cntT (kn : List Bool) : Nat := (kn.filter id).length
theorem kstep_length (kn : List Bool) (e : E4) : (kstep kn e).length = kn.length := by unfold kstep; split <;> simp
theorem knB_set (kn : List Bool) (i : Nat) (m : Nat) (hi : i < kn.length) : knB (kn.set i true) m = if i = m then true else knB kn m := by
 simp only [knB, List.getD_eq_getElem?_getD, List.getElem?_set]
 split
 ·rename_i h; subst h; first | rfl | simp [hi]
 ·rfl
theorem knB_lt {kn : List Bool} {m : Nat} (h : knB kn m = true) : m < kn.length := by
 rcases Nat.lt_or_ge m kn.length with h1 | h1
 ·exact h1
 ·rw [knB, List.getD_eq_getElem?_getD, List.getElem?_eq_none h1] at h
  cases h
theorem cnt_set : ∀ {kn : List Bool} {i : Nat}, i < kn.length → knB kn i = false → cntT (kn.set i true) = cntT kn + 1
 | [], _, h, _ => by simp at h
 | b :: kn, 0, _, h => by
  have : b = false := by simpa [knB] using h
  subst this
  simp [cntT]
 | b :: kn, i + 1, h, h2 => by
  have h3 : knB kn i = false := by simpa [knB] using h2
  have h4 : i < kn.length := by simpa using h
  have h5 := cnt_set h4 h3
  cases b <;> simp [cntT] at h5 ⊢ <;> omega
theorem kstep_mono (kn : List Bool) (e : E4) {m : Nat} (h : knB kn m = true) : knB (kstep kn e) m = true := by
 unfold kstep
 split
 ·by_cases hl : e.tt.toNat < kn.length
  ·rw [knB_set _ _ _ hl]; split
   ·rfl
   ·exact h
  ·rw [List.set_eq_of_length_le (by omega)]; exact h
 ·exact h
theorem wround_length (es : List E4) : ∀ kn : List Bool, (wround es kn).length = kn.length := by
 induction es with
 | nil => exact fun _ => rfl
 | cons e es ih => intro kn; show (wround es (kstep kn e)).length = _; rw [ih, kstep_length]
theorem wround_mono (es : List E4) : ∀ {kn : List Bool} {m : Nat}, knB kn m = true → knB (wround es kn) m = true := by
 induction es with
 | nil => exact fun h => h
 | cons e es ih => intro kn m h; exact ih (kstep_mono kn e h)
theorem kstep_cnt {kn : List Bool} {e : E4} (ht : e.tt.toNat < kn.length) : cntT kn ≤ cntT (kstep kn e) ∧ (knB kn e.fr.toNat = true → knB kn e.tt.toNat = false → cntT kn + 1 ≤ cntT (kstep kn e)) := by
 unfold kstep
 split
 ·rename_i h
  rw [cnt_set ht h.2]
  omega
 ·rename_i h
  exact ⟨Nat.le_refl _, fun h1 h2 => absurd ⟨h1, h2⟩ h⟩
theorem wround_cnt {N : Nat} : ∀ {es : List E4} {kn : List Bool}, kn.length = N → (∀ e ∈ es, e.tt.toNat < N) → cntT kn ≤ cntT (wround es kn) ∧ ∀ e ∈ es, knB kn e.fr.toNat = true → knB kn e.tt.toNat = false → cntT kn + 1 ≤ cntT (wround es kn)
 | [], kn, _, _ => ⟨Nat.le_refl _, fun e h => by cases h⟩
 | e :: es, kn, hl, hE => by
  have hk := kstep_cnt (kn := kn) (e := e) (by rw [hl]; exact hE e (by simp))
  obtain ⟨h1, h2⟩ := wround_cnt (es := es) (kn := kstep kn e) (by rw [kstep_length, hl]) (fun e' h' => hE e' (by simp [h']))
  have e0 : wround (e :: es) kn = wround es (kstep kn e) := rfl
  rw [e0]
  refine ⟨by omega, fun f hf h3 h4 => ?_⟩
  rcases List.mem_cons.1 hf with rfl | hf
  ·have := hk.2 h3 h4
   omega
  ·by_cases h5 : knB (kstep kn e) f.tt.toNat = true
   ·have : cntT kn + 1 ≤ cntT (kstep kn e) := by
     by_cases h6 : knB kn e.fr.toNat = true ∧ knB kn e.tt.toNat = false
     ·exact hk.2 h6.1 h6.2
     ·have : kstep kn e = kn := by unfold kstep; rw [if_neg h6]
      rw [this, h4] at h5
      cases h5
    omega
   ·have h6 := h2 f hf (kstep_mono kn e h3) (by simpa using h5)
    omega
def closedK (es : List E4) (kn : List Bool) : Prop := ∀ e ∈ es, knB kn e.fr.toNat = true → knB kn e.tt.toNat = true
theorem closed_round {es : List E4} {kn : List Bool} : closedK es kn → wround es kn = kn := by
 induction es generalizing kn with
 | nil => exact fun _ => rfl
 | cons e es ih =>
  intro h
  have e1 : kstep kn e = kn := by
   unfold kstep
   rw [if_neg]
   rintro ⟨h1, h2⟩
   rw [h e (by simp) h1] at h2
   cases h2
  show wround es (kstep kn e) = kn
  rw [e1]
  exact ih fun f hf => h f (by simp [hf])
def rounds_ (es : List E4) (kn : List Bool) : Nat → List Bool
 | 0 => kn
 | r + 1 => wround es (rounds_ es kn r)
theorem rounds_length (es : List E4) (kn : List Bool) : ∀ r, (rounds_ es kn r).length = kn.length
 | 0 => rfl
 | r + 1 => by show (wround es _).length = _; rw [wround_length, rounds_length es kn r]
theorem rounds_mono (es : List E4) (kn : List Bool) {m : Nat} (h : knB kn m = true) : ∀ r, knB (rounds_ es kn r) m = true
 | 0 => h
 | r + 1 => wround_mono es (rounds_mono es kn h r)
theorem rounds_or {N : Nat} {es : List E4} {kn : List Bool} (hl : kn.length = N) (hE : ∀ e ∈ es, e.tt.toNat < N) : ∀ r, closedK es (rounds_ es kn r) ∨ r ≤ cntT (rounds_ es kn r)
 | 0 => .inr (Nat.zero_le _)
 | r + 1 => by
  have hlr : (rounds_ es kn r).length = N := by rw [rounds_length, hl]
  rcases rounds_or hl hE r with h | h
  ·left
   show closedK es (wround es _)
   rw [closed_round h]
   exact h
  ·by_cases hc : closedK es (rounds_ es kn r)
   ·left
    show closedK es (wround es _)
    rw [closed_round hc]
    exact hc
   ·right
    unfold closedK at hc
    simp only [Classical.not_forall, Bool.not_eq_true] at hc
    obtain ⟨e, he, h1, h2⟩ := hc
    have := (wround_cnt hlr hE).2 e he h1 h2
    show r + 1 ≤ cntT (wround es _)
    omega
theorem cnt_all : ∀ {kn : List Bool}, kn.length ≤ cntT kn → ∀ m, m < kn.length → knB kn m = true
 | [], _, m, h => by simp at h
 | b :: kn, h, m, hm => by
  have hle : cntT kn ≤ kn.length := List.length_filter_le _ _
  cases b with
  | false => simp [cntT] at h hle; omega
  | true =>
   have h2 : kn.length ≤ cntT kn := by simp [cntT] at h ⊢; omega
   cases m with
   | zero => rfl
   | succ m => exact cnt_all h2 m (by simpa using hm)
theorem rounds_all {N : Nat} {es : List E4} {kn : List Bool} (hl : kn.length = N) (hE : ∀ e ∈ es, (0 ≤ e.fr ∧ e.fr < N) ∧ (0 ≤ e.tt ∧ e.tt < N)) {a b : Nat} (ha : knB kn a = true) (h : Way (Ere es) a b) : knB (rounds_ es kn N) b = true := by
 have hc : closedK es (rounds_ es kn N) := by
  rcases rounds_or hl (fun e he => by have := hE e he; omega) N with h | h
  ·exact h
  ·intro e he _
   have hlr : (rounds_ es kn N).length = N := by rw [rounds_length, hl]
   have := (hE e he).2
   exact cnt_all (by omega) _ (by omega)
 induction h with
 | refl => exact rounds_mono es kn ha N
 | snoc _ hr ih =>
  obtain ⟨e, he, h1, h2⟩ := hr
  have h3 := hc e he (by rw [h1]; exact ih)
  rw [h2] at h3
  exact h3
def loW (cls : List Cl) (v : List Int) : List Int := v.map (loOf cls)
def TxOK (x : Gr) (m : Nat) (t : List Int) : Prop := ∃ n0 v, n0 < x.nodes.length ∧ 1 ≤ x.first.getD n0 0 ∧ 1 ≤ ways (edNs x.edges) n0 v m ∧ (∀ c ∈ v, 0 ≤ c ∧ c < x.cls.length) ∧ t = loW x.cls v
theorem TxOK.start {x : Gr} {m : Nat} (hm : m < x.nodes.length) (h : 1 ≤ x.first.getD m 0) : TxOK x m [] := ⟨m, [], hm, h, by rw [ways_nil, if_pos rfl]; exact Nat.le_refl 1, by simp, rfl⟩
theorem TxOK.step {x : Gr} (ok : GrOK x) {e : E4} (he : e ∈ x.edges) {t : List Int} (h : TxOK x e.fr.toNat t) : TxOK x e.tt.toNat (t ++ [loOf x.cls e.cl]) := by
 obtain ⟨n0, v, h1, h2, h3, h4, rfl⟩ := h
 obtain ⟨a1, a2, a3, a4, _⟩ := ok.ed e he
 have h5 := ways_step (n := n0) (w := v) (List.mem_map_of_mem (f := edN) he)
 refine ⟨n0, v ++ [e.cl], h1, h2, ?_, fun c hc => ?_, by simp [loW]⟩
 ·have h6 : 1 ≤ ways (edNs x.edges) n0 v e.fr.toNat * e.ws.toNat := Nat.mul_le_mul h3 (show 1 ≤ e.ws.toNat by omega)
  exact Nat.le_trans h6 h5
 ·rcases List.mem_append.1 hc with hc | hc
  ·exact h4 c hc
  ·rw [List.mem_singleton] at hc
   subst hc
   exact a3
def LoOK (cls : List Cl) : Prop := ∀ c : Int, 0 ≤ c → c < cls.length → clsOf cls (loOf cls c) = c
theorem loW_cls {cls : List Cl} (h : LoOK cls) {v : List Int} (hv : ∀ c ∈ v, 0 ≤ c ∧ c < cls.length) : (loW cls v).map (clsOf cls) = v := by
 rw [loW, List.map_map]
 refine (List.map_congr_left fun c hc => ?_).trans (List.map_id v)
 exact h c (hv c hc).1 (hv c hc).2
def repS (t w : List Int) : Nat → List Int
 | 0 => t
 | k + 1 => repS t w k ++ w
theorem repS_eq (t w : List Int) : ∀ k, repS t w k = t ++ rep w k
 | 0 => by simp [repS, rep]
 | k + 1 => by rw [repS, repS_eq t w k, rep, List.append_assoc]
theorem rep_map (f : Int → Int) (w : List Int) : ∀ k, (rep w k).map f = rep (w.map f) k
 | 0 => rfl
 | k + 1 => by rw [rep, List.map_append, rep_map f w k]; rfl
theorem exp_ge {x : Gr} (ok : GrOK x) (hlo : LoOK x.cls) {part i : Nat} (hi : i < x.nodes.length) {t w : List Int} (ht : TxOK x i t) (hw : Lead (DSucc x.edges part) ((i : Int), (i : Int), 0) w ((i : Int), (i : Int), 1)) (hwc : ∀ c ∈ w, 0 ≤ c ∧ c < x.cls.length) (k : Nat) :
  (countV x (repS t (loW x.cls w) k)).2 = 4 ∨ ((countV x (repS t (loW x.cls w) k)).2 = 0 ∧ ((2 ^ k : Nat) : Int) ≤ (countV x (repS t (loW x.cls w) k)).1) := by
 obtain ⟨n0, v, h1, h2, h3, h4, rfl⟩ := ht
 refine count_ge ok h1 hi h2 _ (k := 2 ^ k) ?_ (Nat.one_le_two_pow)
 have e1 : (repS (loW x.cls v) (loW x.cls w) k).map (clsOf x.cls) = v ++ rep w k := by
  rw [repS_eq, List.map_append, rep_map, loW_cls hlo h4, loW_cls hlo hwc]
 rw [e1]
 have h5 := ways_rep (dbl_ways ok hw) k
 have h6 := ways_trans (edNs x.edges) n0 i v (rep w k) i
 exact Nat.le_trans (Nat.le_trans h5 (Nat.le_mul_of_pos_left _ h3)) h6
def cod (n : Nat) (e : E4) : Int := (e.fr * n + e.tt) * 2 + e.cl
structure Sor (n q : Nat) (l : List E4) : Prop where
 ok : ∀ e ∈ l, (0 ≤ e.fr ∧ e.fr < n) ∧ (0 ≤ e.tt ∧ e.tt < n) ∧ (0 ≤ e.cl ∧ e.cl < 2) ∧ 1 ≤ e.ws ∧ e.ws ≤ 2 ∧ cod n e < q
 ord : ∀ i (h : i + 1 < l.length), cod n l[i] < cod n l[i + 1]
 len : l.length ≤ q
theorem Sor.start (n : Nat) : Sor n 0 [] := ⟨(fun e h => by cases h), (fun i h => absurd h (Nat.not_lt_zero _)), Nat.le_refl _⟩
theorem Sor.skip {n q : Nat} {l : List E4} (h : Sor n q l) : Sor n (q + 1) l :=
 ⟨fun e he => by obtain ⟨h1, h2, h3, h4, h5, h6⟩ := h.ok e he; exact ⟨h1, h2, h3, h4, h5, by omega⟩, h.ord, by have := h.len; omega⟩
theorem Sor.push {n q : Nat} {l : List E4} (h : Sor n q l) (hn : 1 ≤ n) (hq : q < n * n * 2) {ws : Int} (hw : 1 ≤ ws ∧ ws ≤ 2) : Sor n (q + 1) (l ++ [⟨(q / 2 / n : Nat), (q / 2 % n : Nat), (q % 2 : Nat), ws⟩]) := by
 have h1 : q / 2 < n * n := by omega
 have h2 : q / 2 / n < n := Nat.div_lt_of_lt_mul h1
 have h3 : q / 2 % n < n := Nat.mod_lt _ (by omega)
 have e1 : (q / 2 / n) * n + q / 2 % n = q / 2 := by rw [Nat.mul_comm]; exact Nat.div_add_mod _ _
 obtain ⟨a, ha⟩ : ∃ a, a = q / 2 / n := ⟨_, rfl⟩
 obtain ⟨b, hb⟩ : ∃ b, b = q / 2 % n := ⟨_, rfl⟩
 obtain ⟨c, hc0⟩ : ∃ c, c = q % 2 := ⟨_, rfl⟩
 rw [← ha, ← hb] at e1
 rw [← ha] at h2
 rw [← hb] at h3
 rw [← ha, ← hb, ← hc0]
 have hc : cod n ⟨(a : Nat), (b : Nat), (c : Nat), ws⟩ = q := by
  have e2 : ((a : Int) * n + (b : Int)) = ((q / 2 : Nat) : Int) := by rw [← e1, Int.natCast_add, Int.natCast_mul]
  simp only [cod, e2]
  omega
 refine ⟨fun e he => ?_, fun i hi => ?_, by rw [List.length_append, List.length_singleton]; have := h.len; omega⟩
 ·rcases List.mem_append.1 he with he | he
  ·exact h.skip.ok e he
  ·rw [List.mem_singleton] at he
   subst he
   exact ⟨⟨by simp only; omega, by simp only; omega⟩, ⟨by simp only; omega, by simp only; omega⟩, ⟨by simp only; omega, by simp only; omega⟩, hw.1, hw.2, by rw [hc]; omega⟩
 ·rw [List.length_append, List.length_singleton] at hi
  by_cases hl : i + 1 < l.length
  ·rw [List.getElem_append_left (by omega), List.getElem_append_left hl]
   exact h.ord i hl
  ·have hi2 : i + 1 = l.length := by omega
   rw [List.getElem_append_left (by omega), List.getElem_append_right (by omega)]
   simp only [hi2, Nat.sub_self, List.getElem_singleton]
   rw [hc]
   exact (h.ok _ (List.getElem_mem (by omega))).2.2.2.2.2
theorem cod_cmp {n : Nat} (hn : 1 ≤ n ∧ n ≤ 5) {a b : E4} (ha : (0 ≤ a.fr ∧ a.fr < n) ∧ (0 ≤ a.tt ∧ a.tt < n) ∧ (0 ≤ a.cl ∧ a.cl < 2)) (hb : (0 ≤ b.fr ∧ b.fr < n) ∧ (0 ≤ b.tt ∧ b.tt < n) ∧ (0 ≤ b.cl ∧ b.cl < 2)) (h : cod n a < cod n b) : cmpE a b < 0 := by
 rw [cmpE_lt]
 unfold cod at h
 rcases (by omega : n = 1 ∨ n = 2 ∨ n = 3 ∨ n = 4 ∨ n = 5) with rfl | rfl | rfl | rfl | rfl <;> omega
theorem edgesB_of {n k : Int} : ∀ {l : List E4} {pv : Option E4}, (∀ e ∈ l, (0 ≤ e.fr ∧ e.fr < n) ∧ (0 ≤ e.tt ∧ e.tt < n) ∧ (0 ≤ e.cl ∧ e.cl < k) ∧ 1 ≤ e.ws ∧ e.ws ≤ 1099511627776) → (∀ i (h : i + 1 < l.length), cmpE l[i] l[i + 1] < 0) → (∀ p, pv = some p → ∀ (h : 0 < l.length), cmpE p l[0] < 0) → edgesB n k pv l = true
 | [], _, _, _, _ => rfl
 | e :: r, pv, h1, h2, h3 => by
  obtain ⟨a1, a2, a3, a4, a5⟩ := h1 e (by simp)
  have ih := edgesB_of (l := r) (pv := some e) (fun e' he => h1 e' (by simp [he])) (fun i hi => by have h := h2 (i + 1) (by simp; omega); simpa using h) (fun p hp h0 => by
   cases hp
   have h := h2 0 (by simp; omega)
   simpa using h)
  have ho : ordB pv e = true := by
   unfold ordB
   cases pv with
   | none => rfl
   | some p => exact decide_eq_true (h3 p rfl (by simp))
  simp [edgesB, inB, a1, a2, a3, a4, a5, ho, ih]
structure SomeX (x : Gr) : Prop where
 n1 : 1 ≤ x.nodes.length ∧ x.nodes.length ≤ 5
 lf : x.first.length = x.nodes.length
 first : ∀ v ∈ x.first, 0 ≤ v ∧ v ≤ 2
 edges : ∃ q, q ≤ 50 ∧ Sor x.nodes.length q x.edges
 cls : ∃ a0 c0 a1 c1, x.cls = [⟨a0, c0, [(97, 97)]⟩, ⟨a1, c1, [(98, 99)]⟩]
theorem SomeX.gval {x : Gr} (h : SomeX x) : gvalE x = 0 := by
 obtain ⟨q, hq, hs⟩ := h.edges
 obtain ⟨a0, c0, a1, c1, hc⟩ := h.cls
 have hn := h.n1
 have hl := hs.len
 have h1 : firstB x.first = true := by
  unfold firstB
  rw [List.all_eq_true]
  intro v hv
  have := h.first v hv
  simp
  omega
 have h2 : clsB x.cls = true := by rw [hc]; rfl
 have h3 : edgesB x.nodes.length x.cls.length none x.edges = true := by
  rw [hc]
  refine edgesB_of (fun e he => ?_) (fun i hi => ?_) (fun p hp => by cases hp)
  ·obtain ⟨b1, b2, b3, b4, b5, _⟩ := hs.ok e he
   exact ⟨b1, b2, b3, b4, by omega⟩
  ·obtain ⟨b1, b2, b3, _⟩ := hs.ok x.edges[i] (List.getElem_mem _)
   obtain ⟨d1, d2, d3, _⟩ := hs.ok x.edges[i + 1] (List.getElem_mem _)
   exact cod_cmp hn ⟨b1, b2, b3⟩ ⟨d1, d2, d3⟩ (hs.ord i hi)
 unfold gvalE
 rw [if_neg (by omega), if_neg (by rw [h.lf]; simp), h1, h2, h3]
 rfl
theorem SomeX.lo {x : Gr} (h : SomeX x) : LoOK x.cls := by
 obtain ⟨a0, c0, a1, c1, hc⟩ := h.cls
 rw [hc]
 intro c h0 h1
 have h2 : c < 2 := h1
 rcases (by omega : c = 0 ∨ c = 1) with rfl | rfl <;> rfl
theorem set4_row {w : World} {b t : Nat} {u0 u1 u2 u3 v0 v1 v2 v3 : Value} (h : w.heap[b]? = some (.cells #[u0, u1, u2, u3] t (0, 0))) :
  ((((w.setCell ⟨b, 0, none⟩ v0).setCell ⟨b, 1, none⟩ v1).setCell ⟨b, 2, none⟩ v2).setCell ⟨b, 3, none⟩ v3).heap[b]? = some (.cells #[v0, v1, v2, v3] t (0, 0)) := by
 have q0 := heap_setCell_same w b 0 _ _ v0 h
 have q1 := heap_setCell_same _ b 1 _ _ v1 q0
 have q2 := heap_setCell_same _ b 2 _ _ v2 q1
 have q3 := heap_setCell_same _ b 3 _ _ v3 q2
 refine Eq.trans q3 ?_
 simp
def GraphPost (x : Gr) (w : World) (e : Ending) (w' : World) : Prop := Keeps [] w w' ∧ ∃ y : Gr, e = .returned y.val ∧ GrIn w' y ∧ y.cls = x.cls ∧ y.nodes = x.nodes ∧ y.first = x.first ∧ y.edges = x.edges
set_option linter.unusedSimpArgs false in
theorem graph_any (x : Gr) (w : World) (hx : GrIn w x) (he : x.edges.length ≤ 1000000) : Calls Tryd.prog 5 #[x.val] w (GraphPost x w) := by
 obtain ⟨Q, hQ⟩ : ∃ Q, Q = GraphPost x w := ⟨_, rfl⟩
 rw [← hQ]
 have HQ := Lib.hid hQ
 have HX := Lib.hid hx
 obtain ⟨ie, hi0, hi1, hi2, hi3⟩ := infoParts infoEd
 have HI0 := Lib.hid hi0
 have HI1 := Lib.hid hi1
 have HI2 := Lib.hid hi2
 have HI3 := Lib.hid hi3
 obtain ⟨ea, hea⟩ : ∃ v, v = x.ea := ⟨_, rfl⟩
 simp only [Gr.val, ← hea]
 have HEA := Lib.hid hea
 have HEIN := Lib.hid (show EdIn w ea x.edges by rw [hea]; exact hx.edges)
 clear hQ hx hi0 hi1 hi2 hi3 hea
 go_enter Tryd.func5, Tryd.ntmps5
 go_upto_region 2 with fail
 obtain ⟨B, hB⟩ : ∃ B, B = w.heap.size := ⟨_, rfl⟩
 obtain ⟨Y, hY⟩ : ∃ Y, Y = ((w.alloc (.cells #[.slice x.ca x.cls.length x.cc, .slice x.na x.nodes.length x.nc, .slice x.fa x.first.length x.fc, .slice ea x.edges.length x.ec] 30)).alloc (.cells #[.slice none 0 0, .slice none 0 0, .slice none 0 0, .slice none 0 0] 26)).alloc (.cells #[.slice x.ca x.cls.length x.cc, .slice x.na x.nodes.length x.nc, .slice x.fa x.first.length x.fc, .slice none 0 0] 26) := ⟨_, rfl⟩
 have hkY : Keeps [] w Y := by rw [hY]; exact ((Keeps.a1 _ _).alloc _).alloc _
 have hYs : Y.heap.size = B + 3 := by rw [hY, hB]; simp
 have hr0 : Y.heap[B]? = some (.cells #[.slice x.ca x.cls.length x.cc, .slice x.na x.nodes.length x.nc, .slice x.fa x.first.length x.fc, .slice ea x.edges.length x.ec] 30 (0, 0)) := by rw [hY, hB]; exact ((Keeps.a1 _ _).alloc _).heap (heap_alloc_new w _) (by simp)
 have hr1 : Y.heap[B + 1]? = some (.cells #[.slice none 0 0, .slice none 0 0, .slice none 0 0, .slice none 0 0] 26 (0, 0)) := by rw [hY, hB]; exact (Keeps.a1 _ _).heap (heap_alloc2_new w _ _) (by simp)
 have hr2 : Y.heap[B + 1 + 1]? = some (.cells #[.slice x.ca x.cls.length x.cc, .slice x.na x.nodes.length x.nc, .slice x.fa x.first.length x.fc, .slice none 0 0] 26 (0, 0)) := by
  rw [hY, hB]
  have h := heap_alloc_new ((w.alloc (.cells #[.slice x.ca x.cls.length x.cc, .slice x.na x.nodes.length x.nc, .slice x.fa x.first.length x.fc, .slice ea x.edges.length x.ec] 30)).alloc (.cells #[.slice none 0 0, .slice none 0 0, .slice none 0 0, .slice none 0 0] 26)) (.cells #[.slice x.ca x.cls.length x.cc, .slice x.na x.nodes.length x.nc, .slice x.fa x.first.length x.fc, .slice none 0 0] 26)
  rw [World.size_alloc, World.size_alloc] at h
  exact h
 rw [← hY, ← hB]
 have HR0 := Lib.hid hr0
 have HR1 := Lib.hid hr1
 have HR2 := Lib.hid hr2
 have HKY := Lib.hid hkY
 have HYS := Lib.hid hYs
 have HB := Lib.hid hB
 clear hY hB hkY hYs hr0 hr1 hr2
 go_wp2
 go_loopw [4] (fun v wr => ∃ (q : Nat) (a : Option Nat) (c : Nat), v = .int .i64 q ∧ q ≤ x.edges.length ∧ wr.heap[B + 1 + 1]? = some (.cells #[.slice x.ca x.cls.length x.cc, .slice x.na x.nodes.length x.nc, .slice x.fa x.first.length x.fc, .slice (a.map fun g => ⟨g, 0, none⟩) q c] 26 (0, 0)) ∧ SliceAt wr 48 4 a q c (flatE (x.edges.take q)) ∧ Keeps [B + 1 + 1] Y wr ∧ ∀ g, a = some g → Y.heap.size ≤ g) (fun v _ => x.edges.length - (intOf v).toNat)
 case atStart => exact ⟨0, none, 0, rfl, Nat.zero_le _, HR2.out, SliceAt.nil _ _ _, Keeps.refl _ _, fun g h => by cases h⟩
 case round =>
  obtain ⟨q, a, c, rfl, hq, hbx, hsl, hkr, hag⟩ := hrel
  obtain ⟨wA, hwA⟩ : ∃ wA : World, wA = wr := ⟨_, rfl⟩
  subst hwA
  have HBX := Lib.hid hbx
  have HSL := Lib.hid hsl
  have HKR := Lib.hid hkr
  have HAG := Lib.hid hag
  have hb0 := hkr.heap HR0.out (by simp; omega)
  have b3 : wA.cell? ⟨B, 3, none⟩ = some (.slice ea x.edges.length x.ec) := by simp [World.cell?, hb0]
  by_cases hqn : q < x.edges.length
  ·obtain ⟨eb, eoff, rfl, hec⟩ := HEIN.out (by omega)
   have hew := fun i (h : i < x.edges.length) => hec i h
   obtain ⟨e0, e1, e2, e3⟩ := hec q hqn
   have hebw := World.block_lt_of_cell? _ _ e0
   have hebn : eb ≠ B + 1 + 1 := by have h1 := HB.out; simp only at hebw; omega
   have e0 := hkr.cell (HKY.out.cell e0 (by simp)) (by simpa using hebn)
   have e1 := hkr.cell (HKY.out.cell e1 (by simp)) (by simpa using hebn)
   have e2 := hkr.cell (HKY.out.cell e2 (by simp)) (by simpa using hebn)
   have e3 := hkr.cell (HKY.out.cell e3 (by simp)) (by simpa using hebn)
   have htk : x.edges.take (q + 1) = x.edges.take q ++ [x.edges[q]] := List.take_succ_eq_append_getElem hqn
   obtain ⟨ed, hede⟩ : ∃ ed, ed = x.edges[q] := ⟨_, rfl⟩
   rw [← hede] at e0 e1 e2 e3 htk
   obtain ⟨ef, et, ek, ew⟩ := ed
   simp only at e0 e1 e2 e3
   obtain ⟨D, hD⟩ : ∃ D, D = wA.heap.size := ⟨_, rfl⟩
   obtain ⟨Z, hZ⟩ : ∃ Z, Z = wA.alloc (.cells #[.int .i64 ef, .int .i64 et, .int .i64 ek, .int .i64 ew] 47) := ⟨_, rfl⟩
   have hkZ : Keeps [] wA Z := by rw [hZ]; exact Keeps.a1 _ _
   have hZH : Z.heap[D]? = some (.cells #[.int .i64 ef, .int .i64 et, .int .i64 ek, .int .i64 ew] 47 (0, 0)) := by rw [hZ, hD]; exact heap_alloc_new wA _
   have z0 : Z.cell? ⟨D, 0, none⟩ = some (.int .i64 ef) := by simp [World.cell?, hZH]
   have z1 : Z.cell? ⟨D, 1, none⟩ = some (.int .i64 et) := by simp [World.cell?, hZH]
   have z2 : Z.cell? ⟨D, 2, none⟩ = some (.int .i64 ek) := by simp [World.cell?, hZH]
   have z3 : Z.cell? ⟨D, 3, none⟩ = some (.int .i64 ew) := by simp [World.cell?, hZH]
   have hbz := hkZ.heap hbx (by simp)
   have x3 : Z.cell? ⟨B + 1 + 1, 3, none⟩ = some (.slice (a.map fun g => ⟨g, 0, none⟩) q c) := by simp [World.cell?, hbz]
   have HSZ := Lib.hid (hsl.keep hkZ (by simp))
   have HBZ := Lib.hid hbz
   have HKZ := Lib.hid hkZ
   have HTK := Lib.hid htk
   have HDD := Lib.hid hD
   have HZZ := Lib.hid hZ
   clear hec hew hebw hebn hede htk hZH hbz hbx hsl hkr hag hb0 hkZ
   go_upto_region 6 with fail
   rw [← HZZ.out, ← HDD.out]
   clear e0 e1 e2 e3 b3 hD hZ
   go_wp2_with (at_builtin; refine wpList_append_sl rfl (.tmp 26) (.tmp 36) 24 rfl 48 ie _ 4 32 Tryd.underlying24 HI0.out HI1.out HI2.out HI3.out rfl (by decide) a q c (flatE (x.edges.take q)) rfl (HSZ.out.alloc _) ⟨Z.heap.size, 0, none⟩ 1 1 (E4.cells ⟨ef, et, ek, ew⟩) rfl rfl (news_row' _ _ _ _ rfl) (by intro u hu; simp [E4.cells] at hu; rcases hu with rfl | rfl | rfl | rfl <;> rfl) (by decide) (by omega) (by omega) ?hk)
   case hk =>
    intro g c' w' hs' hk' hg'
    have hka : Keeps a.toList Z w' := ((Keeps.a1 Z (.cells #[.int .i64 ef, .int .i64 et, .int .i64 ek, .int .i64 ew] 48)).mono (by simp)).trans hk'
    have hys := HYS.out
    have hnb : B + 1 + 1 ∉ a.toList := fun hm => by have := HAG.out _ (by simpa using hm); omega
    have hb' := hka.heap HBZ.out hnb
    have x3' : w'.cell? ⟨B + 1 + 1, 3, none⟩ = some (.slice (a.map fun g => ⟨g, 0, none⟩) q c) := by simp [World.cell?, hb']
    have xf' : w'.frozen? ⟨B + 1 + 1, 3, none⟩ = false := by simp [World.frozen?, hb']
    obtain ⟨w6, hw6⟩ : ∃ w6, w6 = w'.setCell ⟨B + 1 + 1, 3, none⟩ (.slice (some ⟨g, 0, none⟩) (q + 1) c') := ⟨_, rfl⟩
    have hk6 : Keeps [B + 1 + 1] w' w6 := by rw [hw6]; exact (Keeps.refl [B + 1 + 1] w').setCell (by simp) _
    have hb6 : w6.heap[B + 1 + 1]? = some (.cells #[.slice x.ca x.cls.length x.cc, .slice x.na x.nodes.length x.nc, .slice x.fa x.first.length x.fc, .slice (some ⟨g, 0, none⟩) (q + 1) c'] 26 (0, 0)) := by
     rw [hw6, heap_setCell_same _ _ 3 _ _ _ hb']
     simp
    have hgY : Y.heap.size ≤ g := by
     rcases hg' with h | h
     ·exact HAG.out g h
     ·have h1 := HKR.out.size; have h2 := HKZ.out.size; have h3 := (Keeps.a1 Z (.cells #[.int .i64 ef, .int .i64 et, .int .i64 ek, .int .i64 ew] 48)).size; omega
    have HEND := Lib.hid (show w6.heap[B + 1 + 1]? = some (.cells #[.slice x.ca x.cls.length x.cc, .slice x.na x.nodes.length x.nc, .slice x.fa x.first.length x.fc, .slice ((some g).map fun g => ⟨g, 0, none⟩) (q + 1) c'] 26 (0, 0)) ∧ SliceAt w6 48 4 (some g) (q + 1) c' (flatE (x.edges.take (q + 1))) ∧ Keeps [B + 1 + 1] Y w6 ∧ ∀ g', some g = some g' → Y.heap.size ≤ g' from by
     refine ⟨hb6, ?_, ((HKR.out.trans (HKZ.out.mono (by simp))).after hka (fun q hq => .inr (HAG.out q (by simpa using hq)))).trans hk6, fun g' h => by cases h; exact hgY⟩
     rw [HTK.out, flatE_append]
     have h := hs'.keep hk6 (fun q hq hm => by cases hq; simp at hm; omega)
     simpa [flatE] using h)
    have HW6 := Lib.hid hw6
    clear hs' hk' hg' hka hnb hb' hw6 hk6 hb6 hgY
    go_wp2
    rw [← HW6.out]
    go_roundw
    case rel => exact ⟨q + 1, some g, c', by go_num, hqn, HEND.out.1, HEND.out.2.1, HEND.out.2.2.1, HEND.out.2.2.2⟩
    case measure => simp [intOf]; omega
  ·obtain rfl : q = x.edges.length := by omega
   rw [List.take_length] at hsl
   have x0 : wA.cell? ⟨B + 1 + 1, 0, none⟩ = some (.slice x.ca x.cls.length x.cc) := by simp [World.cell?, hbx]
   have x1 : wA.cell? ⟨B + 1 + 1, 1, none⟩ = some (.slice x.na x.nodes.length x.nc) := by simp [World.cell?, hbx]
   have x2 : wA.cell? ⟨B + 1 + 1, 2, none⟩ = some (.slice x.fa x.first.length x.fc) := by simp [World.cell?, hbx]
   have x3 : wA.cell? ⟨B + 1 + 1, 3, none⟩ = some (.slice (a.map fun g => ⟨g, 0, none⟩) x.edges.length c) := by simp [World.cell?, hbx]
   have hb1 := hkr.heap HR1.out (by simp)
   have r0 : wA.cell? ⟨B + 1, 0, none⟩ = some (.slice none 0 0) := by simp [World.cell?, hb1]
   have r1 : wA.cell? ⟨B + 1, 1, none⟩ = some (.slice none 0 0) := by simp [World.cell?, hb1]
   have r2 : wA.cell? ⟨B + 1, 2, none⟩ = some (.slice none 0 0) := by simp [World.cell?, hb1]
   have r3 : wA.cell? ⟨B + 1, 3, none⟩ = some (.slice none 0 0) := by simp [World.cell?, hb1]
   have f0 : ∀ i, wA.frozen? ⟨B + 1, i, none⟩ = false := fun i => by simp [World.frozen?, hb1]
   have hf0 := f0 0
   have hf1 := f0 1
   have hf2 := f0 2
   have hf3 := f0 3
   have HROW := Lib.hid (set4_row (v0 := .slice x.ca x.cls.length x.cc) (v1 := .slice x.na x.nodes.length x.nc) (v2 := .slice x.fa x.first.length x.fc) (v3 := .slice (a.map fun g => ⟨g, 0, none⟩) x.edges.length c) hb1)
   have HS1 := Lib.hid hsl
   clear hbx hsl hkr hag hb0 hb1 f0
   go_wp2
   obtain ⟨wE, hwE⟩ : ∃ wE, wE = (((wA.setCell ⟨B + 1, 0, none⟩ (.slice x.ca x.cls.length x.cc)).setCell ⟨B + 1, 1, none⟩ (.slice x.na x.nodes.length x.nc)).setCell ⟨B + 1, 2, none⟩ (.slice x.fa x.first.length x.fc)).setCell ⟨B + 1, 3, none⟩ (.slice (a.map fun g => ⟨g, 0, none⟩) x.edges.length c) := ⟨_, rfl⟩
   have hkE : Keeps [B + 1] wA wE := by rw [hwE]; exact ((((Keeps.refl [B + 1] wA).setCell (by simp) _).setCell (by simp) _).setCell (by simp) _).setCell (by simp) _
   rw [← hwE] at HROW ⊢
   have hys := HYS.out
   have hb := HB.out
   have hkw : Keeps [] w wE := by
    have h1 : Keeps [B + 1 + 1, B + 1] w wE := ((HKY.out.mono (by simp)).trans (HKR.out.mono (by simp))).trans (hkE.mono (by simp))
    exact h1.mono (fun q hq => .inr (by simp at hq; omega))
   have HKW := Lib.hid hkw
   have HGR := Lib.hid (show GrIn wE ⟨x.ca, x.cc, x.cls, x.na, x.nc, x.nodes, x.fa, x.fc, x.first, a.map fun g => ⟨g, 0, none⟩, c, x.edges⟩ from by
    have h := HX.out.keep hkw
    exact ⟨h.cls, h.sp, h.nodes, h.first, (HS1.out.keep hkE (fun g hg hm => by have h1 := HAG.out g hg; simp at hm; omega)).edIn rfl, h.lc, h.ln, h.lf, h.le, h.ls⟩)
   clear hwE hkE hkw x0 x1 x2 x3 r0 r1 r2 r3 hf0 hf1 hf2 hf3
   refine bodyPost_ret (results_cell_row rfl _ _ (B + 1) 26 #[.slice x.ca x.cls.length x.cc, .slice x.na x.nodes.length x.nc, .slice x.fa x.first.length x.fc, .slice (a.map fun g => ⟨g, 0, none⟩) x.edges.length c] (0, 0) _ rfl HROW.out Tryd.underlying26 rfl sizeGr) rfl ?_
   rw [HQ.out]
   exact ⟨HKW.out, _, rfl, HGR.out, rfl, rfl, rfl, rfl⟩
end Go.Proofs.YtphnbmdcgcchaaaDoor
