/- Part 19 of the proof. No condition: every lemma says its own. -/
import Derived.Test.YtkekenaamnhbhaaGreatZsar
import Derived.Test.YtkekenaamnhbhaaGreatZsal
import Derived.Test.YtkekenaamnhbhaaGreatZsaa
import Derived.Test.YtkekenaamnhbhaaGreatZsac
namespace Go.Proofs.YtkekenaamnhbhaaGreat
open Go.RowKit Go.Sort Go.BigFrame Classical
open Go.RowKit Go.Sort Go.BigFrame
open Go.RowKit
set_option maxRecDepth 100000
set_option maxHeartbeats 16000000
section
theorem SliceAt.tri {w : World} {E g n c : Nat} {zs : List Tri} (h : SliceAt w E 3 (some g) n c (triF zs)) (i : Nat) (hi : i < zs.length) : w.cell? ⟨g, i * 3, none⟩ = some (.int .i64 (zs.getD i z0).1) ∧ w.cell? ⟨g, i * 3 + 1, none⟩ = some (.int .i64 (zs.getD i z0).2.1) ∧ w.cell? ⟨g, i * 3 + 2, none⟩ = some (.int .i64 (zs.getD i z0).2.2) := by
 have hl := triF_length zs
 have h1 := triF_get zs [] i hi
 simp only [List.append_nil] at h1
 refine ⟨?_, ?_, ?_⟩
 ·rw [h.cell (i * 3) (by omega), ← List.getElem?_eq_getElem]; exact h1.1
 ·rw [h.cell (i * 3 + 1) (by omega), ← List.getElem?_eq_getElem]; exact h1.2.1
 ·rw [h.cell (i * 3 + 2) (by omega), ← List.getElem?_eq_getElem]; exact h1.2.2
theorem SliceAt.some_of {w : World} {E g n c : Nat} {a : Option Nat} {xs : List Value} (h : SliceAt w E g a n c xs) (h0 : 0 < n) : ∃ b, a = some b := by
 cases a with
 | none => have := h.2.1; omega
 | some b => exact ⟨b, rfl⟩
def lstOf (gL : Value → Option Value) (t : Tri) : Int := match gL (triv t) with
 | some (.int .i64 m) => m
 | _ => 0
theorem lstOf_eq {gL : Value → Option Value} {t : Tri} {m : Int} (h : gL (triv t) = some (.int .i64 m)) : lstOf gL t = m := by simp [lstOf, h]
def FMap (dom : List Tri) (w : World) (fb : Nat) (P : Tri → Prop) : Prop :=
 ∃ gF, MapAt w Tryz.prog 175 fb dom.length gF ∧ (∀ t, TOK t → gF (triv t) = if P t then some (.bool true) else none) ∧ ∀ v, IsKey Tryz.prog 175 v → gF v ≠ none → v ∈ dom.map triv
theorem FMap.congr {dom : List Tri} {w : World} {fb : Nat} {P Q : Tri → Prop} (h : FMap dom w fb P) (e : ∀ t, P t ↔ Q t) : FMap dom w fb Q := by
 have : P = Q := funext fun t => propext (e t)
 rw [← this]; exact h
theorem FMap.keep {dom : List Tri} {w w' : World} {fb : Nat} {P : Tri → Prop} {S : List Nat} (h : FMap dom w fb P) (k : Keeps S w w') (hs : fb ∉ S) : FMap dom w' fb P := by
 obtain ⟨gF, h1, h2, h3⟩ := h
 exact ⟨gF, h1.keep k hs, h2, h3⟩
theorem FMap.put {dom : List Tri} {w' : World} {fb n : Nat} {P : Tri → Prop} {gF : Value → Option Value} {s : Tri} (h2 : ∀ t, TOK t → gF (triv t) = if P t then some (.bool true) else none) (h3 : ∀ v, IsKey Tryz.prog 175 v → gF v ≠ none → v ∈ dom.map triv) (hs : s ∈ dom)
  (h : MapAt w' Tryz.prog 175 fb n (fun u => if u = triv s then some (.bool true) else gF u)) : FMap dom w' fb (fun t => t = s ∨ P t) := by
 have hk : ∀ v, IsKey Tryz.prog 175 v → (if v = triv s then some (Value.bool true) else gF v) ≠ none → v ∈ dom.map triv := fun v hv hne => by
  by_cases e : v = triv s
  ·subst e; exact List.mem_map.2 ⟨s, hs, rfl⟩
  ·rw [if_neg e] at hne; exact h3 v hv hne
 refine ⟨_, by simpa using h.tight triKeyed _ hk, fun t ht => ?_, hk⟩
 by_cases e : t = s
 ·subst e; simp
 ·rw [if_neg (fun h => e (triv_inj h)), h2 t ht]
  simp [e]
theorem FMap.of {dom : List Tri} {w : World} {p9 fb : Nat} {l : List GB} (h : FoundAt dom w p9 fb l) : FMap dom w fb (fun t => t ∈ gsts l) := by
 obtain ⟨gF, h1, h2, h3⟩ := h.map
 exact ⟨gF, h1, fun t ht => by rw [h2 t ht]; by_cases e : t ∈ gsts l <;> simp [e], h3⟩
theorem FMap.to {dom : List Tri} {w : World} {fb : Nat} {l : List GB} (h : FMap dom w fb (fun t => t ∈ gsts l)) : ∃ gF, MapAt w Tryz.prog 175 fb dom.length gF ∧ (∀ t, TOK t → gF (triv t) = if t ∈ gsts l then some (.bool true) else none) ∧ ∀ v, IsKey Tryz.prog 175 v → gF v ≠ none → v ∈ dom.map triv := by
 obtain ⟨gF, h1, h2, h3⟩ := h
 exact ⟨gF, h1, fun t ht => by rw [h2 t ht]; by_cases e : t ∈ gsts l <;> simp [e], h3⟩
structure YS (OKs : Tri → Prop) (dom : List Tri) (succ : Tri → Int → Tri → Prop) (l0 : List GB) (k : Nat) (lst : Tri → Int) (ys : List Tri) : Prop where
 nd : ys.Nodup
 new : ∀ t ∈ ys, t ∉ gsts l0
 ok : ∀ t ∈ ys, OKs t ∧ TOK t ∧ t ∈ dom
 srt : ∀ p q, p < q → q < ys.length → lst (ys.getD p z0) ≤ lst (ys.getD q z0)
 suc : ∀ t ∈ ys, ∃ p ∈ sts (l0.map GB.g) k, succ p (lst t) t
 least : ∀ t ∈ ys, ∀ p ∈ sts (l0.map GB.g) k, ∀ c, succ p c t → lst t ≤ c
 all : ∀ p ∈ sts (l0.map GB.g) k, ∀ c u, succ p c u → u ∈ gsts l0 ∨ u ∈ ys
theorem take_succ_getD {ys : List Tri} {j : Nat} (hj : j < ys.length) : ys.take (j + 1) = ys.take j ++ [ys.getD j z0] := by
 rw [List.take_add_one, List.getElem?_eq_getElem hj]
 simp [List.getD, hj]
theorem mem_take_getD {ys : List Tri} {j : Nat} {t : Tri} (h : t ∈ ys.take j) : ∃ p, p < j ∧ p < ys.length ∧ ys.getD p z0 = t := by
 obtain ⟨p, hp, rfl⟩ := List.mem_iff_getElem.1 h
 simp only [List.length_take] at hp
 exact ⟨p, by omega, by omega, by simp [List.getD, show p < ys.length by omega]⟩
theorem getD_mem_tri {ys : List Tri} {j : Nat} (hj : j < ys.length) : ys.getD j z0 ∈ ys := by
 simp [List.getD, hj]
theorem YS.notake {OKs : Tri → Prop} {dom : List Tri} {succ : Tri → Int → Tri → Prop} {l0 : List GB} {k : Nat} {lst : Tri → Int} {ys : List Tri} (h : YS OKs dom succ l0 k lst ys) {j : Nat} (hj : j < ys.length) : ys.getD j z0 ∉ ys.take j := fun hm => by
 obtain ⟨p, h1, h2, h3⟩ := mem_take_getD hm
 have := List.pairwise_iff_getElem.1 h.nd p j h2 hj h1
 simp [List.getD, h2, hj] at h3
 exact this h3
structure BI (W0 wS : World) (dom : List Tri) (l0 : List GB) (k fb gn0 : Nat) (lst : Tri → Int) (ys : List Tri) (j gn gc : Nat) (l : List GB) (w : World) : Prop where
 kp : Keeps (fb :: gn0 :: gblocks l0) wS w
 grp : GrpAt W0.heap.size w (some gn) gc l
 mp : FMap dom w fb (fun t => t ∈ gsts l0 ∨ t ∈ ys.take j)
 mid : Mid (l0.map GB.g) k (l.map GB.g) ((ys.take j).map fun t => (t, lst t))
 mem : ∀ t, t ∈ gsts l ↔ t ∈ gsts l0 ∨ t ∈ ys.take j
 nd : (gsts l).Nodup
 last : 0 < j → ∃ i b, l = i ++ [b] ∧ l0.length ≤ i.length ∧ b.g.cls = lst (ys.getD (j - 1) z0)
 frs : ∀ x ∈ gn :: gblocks l, x ∈ gn0 :: gblocks l0 ∨ wS.heap.size ≤ x
structure BP (W0 wS : World) (dom : List Tri) (l0 : List GB) (k fb gn0 : Nat) (lst : Tri → Int) (ys : List Tri) (j gn gc : Nat) (i : List GB) (b : GB) (w : World) : Prop where
 kp : Keeps (fb :: gn0 :: gblocks l0) wS w
 grp : GrpAt W0.heap.size w (some gn) gc (i ++ [b])
 mp : FMap dom w fb (fun t => t ∈ gsts l0 ∨ t ∈ ys.take (j + 1))
 mid : Mid (l0.map GB.g) k (i.map GB.g ++ [{ b.g with sts := b.g.sts ++ [ys.getD j z0] }]) ((ys.take (j + 1)).map fun t => (t, lst t))
 mem : ∀ t, t ∈ gsts (i ++ [b]) ↔ t ∈ gsts l0 ∨ t ∈ ys.take j
 nd : (gsts (i ++ [b])).Nodup
 il : l0.length ≤ i.length
 cls : b.g.cls = lst (ys.getD j z0)
 frs : ∀ x ∈ gn :: gblocks (i ++ [b]), x ∈ gn0 :: gblocks l0 ∨ wS.heap.size ≤ x
variable {W0 wS w w' : World} {dom : List Tri} {l0 l : List GB} {k fb gn0 j gn gc : Nat} {lst : Tri → Int} {ys : List Tri} {OKs : Tri → Prop} {succ : Tri → Int → Tri → Prop}
theorem BI.keep (h : BI W0 wS dom l0 k fb gn0 lst ys j gn gc l w) (hk : Keeps [] w w') : BI W0 wS dom l0 k fb gn0 lst ys j gn gc l w' :=
 ⟨h.kp.trans (hk.mono (by simp)), h.grp.keep hk (by simp), h.mp.keep hk (by simp), h.mid, h.mem, h.nd, h.last, h.frs⟩
theorem gsts_append (l r : List GB) : gsts (l ++ r) = gsts l ++ gsts r := by simp [gsts]
theorem BI.start (hg : GrpAt W0.heap.size wS (some gn0) gc l0) (hm : FMap dom wS fb (fun t => t ∈ gsts l0)) (hn : (gsts l0).Nodup) : BI W0 wS dom l0 k fb gn0 lst ys 0 gn0 gc l0 wS where
 kp := Keeps.refl _ _
 grp := hg
 mp := hm.congr (by simp)
 mid := by simpa using Mid.start (l0.map GB.g) k
 mem := by simp
 nd := hn
 last := fun h => absurd h (Nat.lt_irrefl 0)
 frs := fun x hx => .inl hx
theorem pushed {gs : List (Grp Tri)} {n : Nat} {x : Tri × Int} (h : ∀ g, gs.getLast? = some g → ¬ (n < gs.length ∧ g.cls = x.2)) : pushG n k gs x = gs ++ [⟨[x.1], k, x.2, wd gs k ++ [x.2]⟩] := by
 unfold pushG
 cases hg : gs.getLast? with
 | none => rfl
 | some g => simp only; rw [if_neg (h g hg)]
theorem BI.le (H : YS OKs dom succ l0 k lst ys) (hj : j < ys.length) : ∀ y ∈ (ys.take j).map (fun t => (t, lst t)), y.2 ≤ lst (ys.getD j z0) := fun y hy => by
 obtain ⟨t, ht, rfl⟩ := List.mem_map.1 hy
 obtain ⟨p, h1, h2, rfl⟩ := mem_take_getD ht
 exact H.srt p j h1 hj
theorem BI.len0 (h : BI W0 wS dom l0 k fb gn0 lst ys 0 gn gc l w) : l.length = l0.length := by
 have h1 := h.mid.len
 simp only [List.length_map] at h1
 rcases Nat.lt_or_ge l0.length l.length with hlt | hge
 ·exfalso
  obtain ⟨s, hs⟩ := h.mid.ne l0.length (by simp) (by simpa using hlt)
  have := (h.mid.mem l0.length (by simp) (by simpa using hlt) s).1 hs
  simp at this
 ·omega
theorem BI.same (h : BI W0 wS dom l0 k fb gn0 lst ys j gn gc l w) (H : YS OKs dom succ l0 k lst ys) (hk : k < l0.length) (hj : j < ys.length) (h0 : 0 < j) (he : lst (ys.getD j z0) = lst (ys.getD (j - 1) z0))
  (hw : Keeps (fb :: gn0 :: gblocks l0) wS w') (hgr : GrpAt W0.heap.size w' (some gn) gc l) (hm : FMap dom w' fb (fun t => t = ys.getD j z0 ∨ (t ∈ gsts l0 ∨ t ∈ ys.take j))) :
  ∃ i b, l = i ++ [b] ∧ BP W0 wS dom l0 k fb gn0 lst ys j gn gc i b w' := by
 obtain ⟨i, b, rfl, hil, hb⟩ := h.last h0
 have hp := h.mid.push (x := (ys.getD j z0, lst (ys.getD j z0))) (by simpa using hk) (BI.le H hj)
 refine ⟨i, b, rfl, hw, hgr, hm.congr fun t => by rw [take_succ_getD hj]; simp only [List.mem_append, List.mem_singleton]; constructor <;> (intro h; rcases h with h | h | h <;> simp [h]), ?_, h.mem, h.nd, hil, by rw [hb, he], h.frs⟩
 rw [take_succ_getD hj, List.map_append]
 have e : pushG (l0.map GB.g).length k ((i ++ [b]).map GB.g) (ys.getD j z0, lst (ys.getD j z0)) = i.map GB.g ++ [{ b.g with sts := b.g.sts ++ [ys.getD j z0] }] := by
  unfold pushG
  simp only [List.map_append, List.map_cons, List.map_nil, List.getLast?_append, List.getLast?_singleton, Option.some_or, List.dropLast_concat, List.length_append, List.length_map, List.length_cons, List.length_nil]
  rw [if_pos ⟨by omega, by rw [hb, he]⟩]
 rw [e] at hp
 exact hp
theorem BI.push (h : BI W0 wS dom l0 k fb gn0 lst ys j gn gc l w) (H : YS OKs dom succ l0 k lst ys) (hk : k < l0.length) (hj : j < ys.length) (hne : j = 0 ∨ lst (ys.getD j z0) ≠ lst (ys.getD (j - 1) z0)) {g c' : Nat}
  (hw : Keeps (fb :: gn0 :: gblocks l0) wS w') (hgr : GrpAt W0.heap.size w' (some g) c' (l ++ [⟨⟨[], k, lst (ys.getD j z0), wd (l.map GB.g) k ++ [lst (ys.getD j z0)]⟩, none, 0⟩])) (hg : gn = g ∨ wS.heap.size ≤ g)
  (hm : FMap dom w' fb (fun t => t = ys.getD j z0 ∨ (t ∈ gsts l0 ∨ t ∈ ys.take j))) :
  BP W0 wS dom l0 k fb gn0 lst ys j g c' l ⟨⟨[], k, lst (ys.getD j z0), wd (l.map GB.g) k ++ [lst (ys.getD j z0)]⟩, none, 0⟩ w' := by
 have hp := h.mid.push (x := (ys.getD j z0, lst (ys.getD j z0))) (by simpa using hk) (BI.le H hj)
 have hl := h.mid.len
 simp only [List.length_map] at hl
 rw [pushed] at hp
 ·refine ⟨hw, hgr, hm.congr fun t => by rw [take_succ_getD hj]; simp only [List.mem_append, List.mem_singleton]; constructor <;> (intro h; rcases h with h | h | h <;> simp [h]), ?_, fun t => ?_, ?_, hl, rfl, fun x hx => ?_⟩
  ·rw [take_succ_getD hj, List.map_append]
   exact hp
  ·rw [gsts_append]
   simpa [gsts] using h.mem t
  ·rw [gsts_append]
   simpa [gsts] using h.nd
  ·rw [gblocks_append] at hx
   simp only [List.mem_cons, List.mem_append] at hx
   rcases hx with rfl | hx | hx
   ·rcases hg with rfl | hg
    ·exact h.frs _ (by simp)
    ·exact .inr hg
   ·exact h.frs _ (by simp [hx])
   ·simp [gblocks] at hx
 ·intro g0 hg0
  rcases hne with rfl | hne
  ·have := h.len0
   simp only [List.length_map]
   omega
  ·rintro ⟨_, hc⟩
   rcases Nat.eq_zero_or_pos j with rfl | hj0
   ·exact hne rfl
   ·obtain ⟨i, b, rfl, _, hb⟩ := h.last hj0
    simp at hg0
    subst hg0
    exact hne (by rw [← hb]; exact hc.symm)
theorem BP.done {i : List GB} {b : GB} (h : BP W0 wS dom l0 k fb gn0 lst ys j gn gc i b w) (H : YS OKs dom succ l0 k lst ys) (hj : j < ys.length) (hfb : fb ∉ gn0 :: gblocks l0) (hfl : fb < wS.heap.size) (hN : W0.heap.size ≤ wS.heap.size) {st c' : Nat}
  (hs : SliceAt w' 175 3 (some st) (b.g.sts.length + 1) c' (triF b.g.sts ++ triL (ys.getD j z0))) (hk : Keeps b.a.toList w w') (hsb : b.a = some st ∨ w.heap.size ≤ st) :
  BI W0 wS dom l0 k fb gn0 lst ys (j + 1) gn gc (i ++ [⟨{ b.g with sts := b.g.sts ++ [ys.getD j z0] }, some st, c'⟩]) (w'.setCell ⟨gn, i.length * 3, none⟩ (sv (some st) (b.g.sts.length + 1) c')) := by
 have hwS := h.kp.size
 have hba : ∀ x ∈ b.a.toList, x ∈ gblocks (i ++ [b]) := fun x hx => by rw [gblocks_append]; simp [gblocks] at hx ⊢; exact .inr hx
 have hfn : fb ∉ b.a.toList := fun hm => by
  rcases h.frs fb (by simp [hba fb hm]) with e | e
  ·exact hfb e
  ·omega
 have hfg : fb ≠ gn := fun e => by
  rcases h.frs gn (by simp) with e' | e'
  ·exact hfb (e ▸ e')
  ·omega
 have kg : Keeps [gn] w' (w'.setCell ⟨gn, i.length * 3, none⟩ (sv (some st) (b.g.sts.length + 1) c')) := (Keeps.refl [gn] w').setCell (by simp) _
 have e1 : gsts (i ++ [⟨{ b.g with sts := b.g.sts ++ [ys.getD j z0] }, some st, c'⟩]) = gsts (i ++ [b]) ++ [ys.getD j z0] := by
  rw [gsts_append, gsts_append]
  simp [gsts]
 refine ⟨?_, h.grp.addLast (ys.getD j z0) hs hk hsb (by omega), (h.mp.keep hk hfn).keep kg (by simpa using hfg), ?_, fun t => ?_, ?_, fun _ => ⟨i, _, rfl, h.il, by simpa using h.cls⟩, fun x hx => ?_⟩
 ·refine (h.kp.after hk fun x hx => ?_).after kg fun x hx => ?_
  ·rcases h.frs x (by simp [hba x hx]) with e | e
   ·exact .inl (by simp at e ⊢; exact .inr e)
   ·exact .inr e
  ·simp at hx
   subst hx
   rcases h.frs x (by simp) with e | e
   ·exact .inl (by simp at e ⊢; exact .inr e)
   ·exact .inr e
 ·simpa using h.mid
 ·rw [e1, take_succ_getD hj]
  simp only [List.mem_append, List.mem_singleton]
  rw [h.mem t, or_assoc]
 ·rw [e1, List.nodup_append]
  refine ⟨h.nd, by simp, fun x hx y hy => ?_⟩
  simp at hy
  subst hy
  rintro rfl
  rcases (h.mem _).1 hx with e | e
  ·exact H.new _ (getD_mem_tri hj) e
  ·exact H.notake hj e
 ·rw [gblocks_append] at hx
  simp only [List.mem_cons, List.mem_append] at hx
  rcases hx with rfl | hx | hx
  ·exact h.frs _ (by simp)
  ·exact h.frs _ (by rw [gblocks_append]; simp [hx])
  ·simp [gblocks] at hx
   subst hx
   rcases hsb with hsb | hsb
   ·exact h.frs _ (by simp [hba x (by simp [hsb])])
   ·exact .inr (by omega)
def Links (gs : List (Grp Tri)) : Prop := (gs.getD 0 .none).bef = -1 ∧ wd gs 0 = [] ∧ ∀ q, 0 < q → q < gs.length → ∃ b : Nat, (gs.getD q .none).bef = b ∧ b < q ∧ wd gs q = wd gs b ++ [(gs.getD q .none).cls]
theorem Links.of {gs gs' : List (Grp Tri)} {s0 : Tri} {D : List (Tri × Int)} (h : Mid gs k gs' D) (B : Bfs succ s0 gs k) (hk : k < gs.length) : Links gs' := by
 have e : ∀ q, q < gs.length → wd gs' q = wd gs q := fun q hq => by rw [wd, wd, h.old q hq]
 refine ⟨by rw [h.old 0 B.pos, B.head], by rw [e 0 B.pos, B.wd0], fun q h0 hq => ?_⟩
 rcases Nat.lt_or_ge q gs.length with hl | hl
 ·obtain ⟨b, h1, h2, h3, h4⟩ := B.link q h0 hl
  exact ⟨b, by rw [h.old q hl]; exact h1, h2, by rw [e q hl, e b (by omega), h.old q hl]; exact h4⟩
 ·obtain ⟨h1, h2⟩ := h.new q hl hq
  exact ⟨k, h1, by omega, by rw [e k hk]; exact h2⟩
theorem Links.len {gs : List (Grp Tri)} (h : Links gs) : ∀ q, q < gs.length → (wd gs q).length ≤ q := by
 intro q
 induction q using Nat.strongRecOn with
 | ind q ih =>
  intro hq
  rcases Nat.eq_zero_or_pos q with rfl | h0
  ·rw [h.2.1]; exact Nat.le_refl 0
  ·obtain ⟨b, _, h2, h3⟩ := h.2.2 q h0 hq
   have := ih b h2 (by omega)
   rw [h3, List.length_append, List.length_singleton]
   omega
theorem BI.found {s0 : Tri} (h : BI W0 wS dom l0 k fb gn0 lst ys (j + 1) gn gc l w) (H : YS OKs dom succ l0 k lst ys) (B : Bfs succ s0 (l0.map GB.g) k) (hk : k < l0.length) (hj : j < ys.length) : 0 < l.length ∧ Least succ s0 (wd (l.map GB.g) (l.length - 1)) (ys.getD j z0) := by
 obtain ⟨i, b, rfl, hil, hb⟩ := h.last (Nat.succ_pos j)
 have hm := getD_mem_tri hj
 have hw : wd ((i ++ [b]).map GB.g) ((i ++ [b]).length - 1) = wd (l0.map GB.g) k ++ [lst (ys.getD j z0)] := by
  have h1 := (h.mid.new i.length (by simpa using hil) (by simp)).2
  have e : ((i ++ [b]).map GB.g).getD i.length .none = b.g := by
   rw [List.map_append, List.map_singleton, getD_snoc, if_pos (by simp)]
  rw [e] at h1
  rw [wd, show (i ++ [b]).length - 1 = i.length by simp, e, h1, hb]
  rfl
 refine ⟨by simp, ?_⟩
 rw [hw]
 refine B.least (by simpa using hk) (H.suc _ hm) (H.least _ hm) fun q hq hs => H.new _ hm (mem_gsts.2 ?_)
 have hq' : q < l0.length := by simpa using hq
 refine ⟨l0[q], List.getElem_mem hq', ?_⟩
 simpa [Go.Proofs.YtkekenaamnhbhaaGreat.sts, List.getD, hq'] using hs
theorem sts_map {l : List GB} {q : Nat} (hq : q < l.length) : sts (l.map GB.g) q = l[q].g.sts := by simp [Go.Proofs.YtkekenaamnhbhaaGreat.sts, List.getD, hq]
theorem BI.ne (h : BI W0 wS dom l0 k fb gn0 lst ys j gn gc l w) (hne : ∀ b ∈ l0, b.g.sts ≠ []) : ∀ b ∈ l, b.g.sts ≠ [] := fun b hb => by
 obtain ⟨q, hq, rfl⟩ := List.mem_iff_getElem.1 hb
 rw [← sts_map hq]
 rcases Nat.lt_or_ge q l0.length with hq0 | hq0
 ·have e := h.mid.old q (by simpa using hq0)
  rw [Go.Proofs.YtkekenaamnhbhaaGreat.sts, e, ← Go.Proofs.YtkekenaamnhbhaaGreat.sts, sts_map hq0]
  exact hne _ (List.getElem_mem hq0)
 ·obtain ⟨s, hs⟩ := h.mid.ne q (by simpa using hq0) (by simpa using hq)
  intro e
  rw [e] at hs
  cases hs
theorem BI.len (h : BI W0 wS dom l0 k fb gn0 lst ys j gn gc l w) (H : YS OKs dom succ l0 k lst ys) (hne : ∀ b ∈ l0, b.g.sts ≠ []) (hd : ∀ t ∈ gsts l0, t ∈ dom) : l.length ≤ dom.length :=
 Nat.le_trans (gsts_len (h.ne hne)) (nodup_le h.nd fun t ht => by
  rcases (h.mem t).1 ht with e | e
  ·exact hd t e
  ·exact (H.ok t (List.mem_of_mem_take e)).2.2)
theorem BP.len {i : List GB} {b : GB} (h : BP W0 wS dom l0 k fb gn0 lst ys j gn gc i b w) (H : YS OKs dom succ l0 k lst ys) (hj : j < ys.length) (hne : ∀ b ∈ l0, b.g.sts ≠ []) (hd : ∀ t ∈ gsts l0, t ∈ dom) : i.length + 1 ≤ dom.length ∧ b.g.sts.length ≤ dom.length := by
 have hin : ∀ t ∈ gsts (i ++ [b]) ++ [ys.getD j z0], t ∈ dom := fun t ht => by
  rcases List.mem_append.1 ht with ht | ht
  ·rcases (h.mem t).1 ht with e | e
   ·exact hd t e
   ·exact (H.ok t (List.mem_of_mem_take e)).2.2
  ·simp at ht
   subst ht
   exact (H.ok _ (getD_mem_tri hj)).2.2
 have hnd : (gsts (i ++ [b]) ++ [ys.getD j z0]).Nodup := by
  rw [List.nodup_append]
  refine ⟨h.nd, by simp, fun x hx y hy => ?_⟩
  simp at hy
  subst hy
  rintro rfl
  rcases (h.mem _).1 hx with e | e
  ·exact H.new _ (getD_mem_tri hj) e
  ·exact H.notake hj e
 have h1 := nodup_le hnd hin
 have hi : i.length ≤ (gsts i).length := gsts_len fun c hc => by
  obtain ⟨q, hq, rfl⟩ := List.mem_iff_getElem.1 hc
  have e0 : (i.map GB.g ++ [{ b.g with sts := b.g.sts ++ [ys.getD j z0] }]).getD q .none = (i.map GB.g).getD q .none := by rw [getD_snoc, if_neg (by simp; omega)]
  rw [← sts_map hq]
  rcases Nat.lt_or_ge q l0.length with hq0 | hq0
  ·have e := h.mid.old q (by simpa using hq0)
   rw [e0] at e
   rw [Go.Proofs.YtkekenaamnhbhaaGreat.sts, e, ← Go.Proofs.YtkekenaamnhbhaaGreat.sts, sts_map hq0]
   exact hne _ (List.getElem_mem hq0)
  ·obtain ⟨s, hs⟩ := h.mid.ne q (by simpa using hq0) (by simp; omega)
   rw [Go.Proofs.YtkekenaamnhbhaaGreat.sts, e0, ← Go.Proofs.YtkekenaamnhbhaaGreat.sts] at hs
   intro e
   rw [e] at hs
   cases hs
 have e2 : gsts (i ++ [b]) = gsts i ++ b.g.sts := by rw [gsts_append]; simp [gsts]
 rw [e2] at h1
 simp only [List.length_append, List.length_singleton] at h1
 omega
theorem BI.finish {s0 goal : Tri} {p9 gc0 : Nat} {wr : World} (h : BI W0 wS dom l0 k fb gn0 lst ys ys.length gn gc l w) (H : YS OKs dom succ l0 k lst ys) (I : SInv W0 OKs dom succ s0 goal p9 fb gn0 gc0 k l0 wr) (hk : k < l0.length) (hg : goal ∉ ys)
  (kS : Keeps [] W0 wS) (hws : wr.heap.size ≤ wS.heap.size) (h9 : wS.cell? ⟨p9, 0, none⟩ = some (.map (some fb))) : SInv W0 OKs dom succ s0 goal p9 fb gn gc (k + 1) l w := by
 have hap := I.ap
 have hW := I.kp.size
 have hlt9 : p9 < wr.heap.size := World.block_lt_of_cell? _ _ I.fnd.c9
 obtain ⟨_, hmF, _⟩ := I.fnd.map
 have hltf : fb < wr.heap.size := hmF.lt
 simp only [List.nodup_cons, List.mem_cons, not_or] at hap
 obtain ⟨⟨a1, a2, a3⟩, ⟨a4, a5⟩, a6, a7⟩ := hap
 have hlen := h.mid.len
 simp only [List.length_map] at hlen
 have hge : ∀ x ∈ gn0 :: gblocks l0, W0.heap.size ≤ x := fun x hx => I.grp.ge x (by simpa using hx)
 have hno : ∀ x, x < wr.heap.size → x ∉ gn0 :: gblocks l0 → x ∉ gn :: gblocks l := fun x hx hn hm => by
  rcases h.frs x hm with e | e
  ·exact hn e
  ·omega
 have h9n : p9 ∉ gn :: gblocks l := hno p9 hlt9 (by simp [a2, a3])
 have hfn : fb ∉ gn :: gblocks l := hno fb hltf (by simp [a4, a5])
 have hgd := h.grp.nd
 simp only [Option.toList_some, List.singleton_append] at hgd
 refine ⟨by omega, h.grp, h.mid.done I.bfs (by simpa using hk) (fun x hx => ?_) (fun p hp c u hs => ?_), ⟨h.kp.cell h9 (by simp [a1, a2, a3]), (h.mp.congr fun t => by rw [h.mem t]).to⟩, h.nd, fun t ht => ?_, fun hm => ?_, fun b hb => ?_, kS.after h.kp (fun x hx => ?_), ?_, I.ge⟩
 ·obtain ⟨t, ht, rfl⟩ := List.mem_map.1 hx
  exact H.suc t (by simpa using List.mem_of_mem_take ht)
 ·rcases H.all p hp c u hs with e | e
  ·obtain ⟨b, hb, hu⟩ := mem_gsts.1 e
   obtain ⟨q, hq, rfl⟩ := List.mem_iff_getElem.1 hb
   exact .inl ⟨q, by simpa using hq, by rw [sts_map hq]; exact hu⟩
  ·exact .inr ⟨(u, lst u), List.mem_map.2 ⟨u, by simpa using e, rfl⟩, rfl, H.least u e p hp c hs⟩
 ·rcases (h.mem t).1 ht with e | e
  ·exact I.ok t e
  ·exact (H.ok t (List.mem_of_mem_take e)).1
 ·rcases (h.mem goal).1 hm with e | e
  ·exact I.ng e
  ·exact hg (List.mem_of_mem_take e)
 ·exact h.ne I.ne b hb
 ·simp only [List.mem_cons] at hx
  rcases hx with rfl | hx
  ·exact .inr I.ge.2
  ·exact .inr (hge x (by simpa using hx))
 ·rw [List.nodup_cons, List.nodup_cons]
  refine ⟨?_, hfn, hgd⟩
  simp only [List.mem_cons, not_or] at h9n ⊢
  exact ⟨a1, h9n.1, h9n.2⟩
end
theorem isort_nil (p : Nat) (w : World) : Calls Tryz.prog 132 #[.slice none 0 0, .int .i64 0, .int .i64 0, cmpV p] w fun e w' => e = .returned (.tuple #[]) ∧ w = w' := by
 unfold cmpV
 go_enter Tryz.func132, Tryz.ntmps132
 go_wp2
 go_loopw [8] (fun i wr => i = .int .i64 1 ∧ w = wr) (fun _ _ => 0)
 case atStart => exact ⟨rfl, rfl⟩
 case round =>
  obtain ⟨rfl, rfl⟩ := hrel
  go_wp2
  go_end0
  exact ⟨rfl, rfl⟩
theorem stable_nil (p : Nat) (w : World) : Calls Tryz.prog 121 #[.slice none 0 0, .int .i64 0, cmpV p] w fun e w' => e = .returned (.tuple #[]) ∧ w = w' := by
 have H0 := gI (fun W => isort_nil p W)
 unfold cmpV at H0 ⊢
 go_enter Tryz.func121, Tryz.ntmps121
 go_wp2
 go_loopw [7, 8] (fun s7 s8 wr => s7 = .int .i64 0 ∧ s8 = .int .i64 20 ∧ w = wr) (fun _ _ _ => 0)
 case atStart => exact ⟨rfl, rfl, rfl⟩
 case round =>
  obtain ⟨rfl, rfl, rfl⟩ := hrel
  go_wp2_with fail
  refine Calls.mono (H0.out _) ?_
  rintro e w1 ⟨rfl, rfl⟩
  go_wp2
  go_loopw [6] (fun s6 wr => s6 = .int .i64 20 ∧ w = wr) (fun _ _ => 0)
  case atStart => exact ⟨rfl, rfl⟩
  case round =>
   obtain ⟨rfl, rfl⟩ := hrel
   go_wp2
   go_end0
   exact ⟨rfl, rfl⟩
theorem sorts_nil (p : Nat) (w : World) : Calls Tryz.prog 115 #[.slice none 0 0, cmpV p] w fun e w' => e = .returned (.tuple #[]) ∧ w = w' := by
 have H0 := gI (stable_nil p w)
 unfold cmpV at H0 ⊢
 go_enter Tryz.func115, Tryz.ntmps115
 go_wp2_with fail
 refine Calls.mono H0.out ?_
 rintro e w1 ⟨rfl, rfl⟩
 go_wp2
 go_end0
 exact ⟨rfl, rfl⟩
theorem sort_sl (ga : Option Nat) (p mb mn : Nat) (gm : Value → Option Value) (key : Tri → Int) (xs : List Tri) (c : Nat) (w : World) (hE : KeyEnv w p mb mn gm) (hI : SliceAt w 175 3 ga xs.length c (triF xs))
  (hd : ∀ g, ga = some g → g ∉ [p, mb]) (hr : ∀ x ∈ xs, HasKey gm key x) (hxl : xs.length ≤ 1000000) :
  Calls Tryz.prog 115 #[sv ga xs.length c, cmpV p] w fun e w' =>
   e = .returned (.tuple #[]) ∧ ∃ ys, SliceAt w' 175 3 ga ys.length c (triF ys) ∧ ys.Perm xs ∧ Desc key ys 0 ys.length ∧ Keeps ga.toList w w' := by
 cases ga with
 | none =>
  obtain ⟨h1, h2, rfl⟩ := hI
  have hx : xs = [] := List.eq_nil_of_length_eq_zero h2
  subst hx
  refine (sorts_nil p w).mono ?_
  rintro e w' ⟨rfl, rfl⟩
  exact ⟨rfl, [], SliceAt.nil _ _ _, .refl _, fun a b _ _ h => by simp at h, Keeps.refl _ _⟩
 | some g =>
  obtain ⟨h1, cur, h2, h3, h4, h5, h6⟩ := hI
  have ht : Tris 175 w g (cur.toList.drop (xs.length * 3)) xs := by
   unfold Tris
   rw [h2, ← h6, List.take_append_drop]
  refine (sorts_any g p mb mn gm key _ xs c w hE ht (hd g rfl) hr hxl).mono ?_
  rintro e w' ⟨rfl, ys, k1, k2, k3, k4⟩
  have hl := k2.len
  refine ⟨rfl, ys, ⟨triF_length ys, _, k1, by omega, h4, ?_, ?_⟩, k2.perm, by rw [hl]; exact k3, by simpa using k4⟩
  ·simp only [List.size_toArray, List.length_append, triF_length, List.length_drop, Array.length_toList]
   omega
  ·rw [hl, ← hl, ← triF_length ys]
   exact List.take_left
def RevAt (xs zs : List Int) (i : Nat) : Prop := zs.length = xs.length ∧ ∀ k, k < xs.length → zs.getD k 0 = if k < i ∨ xs.length ≤ k + i then xs.getD (xs.length - 1 - k) 0 else xs.getD k 0
theorem RevAt.start (xs : List Int) : RevAt xs xs 0 := ⟨rfl, fun k hk => by rw [if_neg (by omega)]⟩
theorem getD_setI {l : List Int} {i k : Nat} {v : Int} (hk : k < l.length) : (l.set i v).getD k 0 = if k = i then v else l.getD k 0 := by
 simp only [List.getD, List.getElem?_set]
 by_cases h : i = k
 ·subst h; simp [hk]
 ·rw [if_neg h, if_neg (fun e => h e.symm)]
theorem RevAt.step {xs zs : List Int} {i j : Nat} (h : RevAt xs zs i) (hj : i + j + 1 = xs.length) (hij : i < j) : RevAt xs ((zs.set i (zs.getD j 0)).set j (zs.getD i 0)) (i + 1) := by
 obtain ⟨hl, h⟩ := h
 refine ⟨by simpa using hl, fun k hk => ?_⟩
 rw [getD_setI (by simp; omega), getD_setI (by omega), h k hk, h i (by omega), h j (by omega), if_neg (show ¬ (i < i ∨ xs.length ≤ i + i) by omega), if_neg (show ¬ (j < i ∨ xs.length ≤ j + i) by omega)]
 by_cases e : k = j
 ·subst e
  rw [if_pos rfl, if_pos (by omega)]
  congr 1; omega
 ·rw [if_neg e]
  by_cases e2 : k = i
  ·subst e2
   rw [if_pos rfl, if_pos (by omega)]
   congr 1; omega
  ·rw [if_neg e2]
   by_cases e3 : k < i ∨ xs.length ≤ k + i
   ·rw [if_pos e3, if_pos (by omega)]
   ·rw [if_neg e3, if_neg (by omega)]
theorem RevAt.done {xs zs : List Int} {i : Nat} (h : RevAt xs zs i) (hi : xs.length ≤ 2 * i + 1) : zs = xs.reverse := by
 obtain ⟨hl, h⟩ := h
 apply List.ext_getElem
 ·simpa using hl
 ·intro k h1 h2
  have h3 := h k (by omega)
  simp only [List.getElem_reverse]
  simp only [List.getD, List.getElem?_eq_getElem h1, Option.getD_some] at h3
  rw [h3]
  split
  ·rw [List.getElem?_eq_getElem (by omega), Option.getD_some]
  ·have hk : xs.length - 1 - k = k := by omega
   rw [List.getElem?_eq_getElem (by omega), Option.getD_some]
   congr 1; omega
theorem SliceAt.setI {w : World} {e g n c : Nat} {xs : List Int} (h : SliceAt w e 1 (some g) n c (xs.map (Value.int .i64))) (i : Nat) (v : Int) : SliceAt (w.setCell ⟨g, i, none⟩ (.int .i64 v)) e 1 (some g) n c ((xs.set i v).map (Value.int .i64)) := by
 obtain ⟨h1, cur, h2, h3, h4, h5, h6⟩ := h
 refine ⟨by simpa using h1, _, heap_setCell_same w g i _ e _ h2, h3, h4, by simpa using h5, ?_⟩
 simp only [Nat.mul_one] at h6 ⊢
 simp [List.map_set, ← h6, List.take_set]
theorem SliceAt.intD {w : World} {e g n c : Nat} {xs : List Int} (h : SliceAt w e 1 (some g) n c (xs.map (Value.int .i64))) (i : Nat) (hi : i < xs.length) : w.cell? ⟨g, i, none⟩ = some (.int .i64 (xs.getD i 0)) := by
 rw [h.cell i (by simpa using hi)]
 simp [List.getD, hi]
theorem reverse_any (a : Option Nat) (c : Nat) (xs : List Int) (w : World) (hI : SliceAt w 3 1 a xs.length c (xs.map (Value.int .i64))) (hxl : xs.length ≤ 1000000) :
  Calls Tryz.prog 117 #[.slice (a.map fun g => ⟨g, 0, none⟩) xs.length c] w fun e w' =>
   e = .returned (.tuple #[]) ∧ SliceAt w' 3 1 a xs.length c (xs.reverse.map (Value.int .i64)) ∧ Keeps a.toList w w' := by
 have HI := gI hI
 obtain ⟨n, hn⟩ : ∃ n, n = xs.length := ⟨_, rfl⟩
 rw [← hn] at hxl ⊢
 have HN := gI hn
 clear hI hn
 go_enter Tryz.func117, Tryz.ntmps117
 go_wp2
 go_loopw [2, 3] (fun s2 s3 wr => ∃ (i : Nat) (jz : Int) (zs : List Int), s2 = .int .i64 i ∧ s3 = .int .i64 jz ∧ jz = (n : Int) - 1 - i ∧ i ≤ n ∧ RevAt xs zs i ∧ SliceAt wr 3 1 a n c (zs.map (Value.int .i64)) ∧ Keeps a.toList w wr) (fun s2 _ _ => n - (intOf s2).toNat)
 case atStart => exact ⟨0, (n : Int) - 1, xs, rfl, by first | rfl | go_num, by omega, Nat.zero_le _, RevAt.start xs, by rw [HN.out]; exact HI.out, Keeps.refl _ _⟩
 case round =>
  obtain ⟨i, jz, zs, rfl, rfl, hjz, hin, hr, hs, hk⟩ := hrel
  by_cases hij : (i : Int) < jz
  ·obtain ⟨j, rfl⟩ := Int.eq_ofNat_of_zero_le (show 0 ≤ jz by omega)
   obtain ⟨g, rfl⟩ : ∃ g, a = some g := by
    cases a with
    | none => have := hs.2.1; omega
    | some g => exact ⟨g, rfl⟩
   simp only [Option.map_some]
   have hzl : zs.length = n := by rw [hr.1, HN.out]
   have c1 := hs.intD i (by omega)
   have c2 := hs.intD j (by omega)
   have f1 := hs.fz i
   have f2 := hs.fz j
   have hlt : i < n := by omega
   have hlt2 : j < n := by omega
   have HJ := gI (show i + j + 1 = xs.length by rw [← HN.out]; omega)
   have HIJ := gI (show i < j by omega)
   have HR := gI (hr.step HJ.out HIJ.out)
   have HSW := gI ((hs.setI i (zs.getD j 0)).setI j (zs.getD i 0))
   have HSW2 := gI ((hs.setI j (zs.getD i 0)).setI i (zs.getD j 0))
   have HK := gI hk
   have HJZ := gI hjz
   have hne : i ≠ j := by omega
   have hne2 : ¬ i = j := by omega
   have hne3 : ¬ j = i := by omega
   obtain ⟨x1, hx1⟩ : ∃ x, x = zs.getD i 0 := ⟨_, rfl⟩
   obtain ⟨x2, hx2⟩ : ∃ x, x = zs.getD j 0 := ⟨_, rfl⟩
   rw [← hx1] at c1 HSW HSW2 HR
   rw [← hx2] at c2 HSW HSW2 HR
   clear hr hs hk hjz hzl hx1 hx2
   go_wp2
   go_region
   go_wp2
   go_roundw
   case rel => exact ⟨i + 1, (j : Int) - 1, _, by go_num, by go_num, by have := HJ.out; rw [← HN.out] at this; omega, by omega, HR.out, HSW.out, (HK.out.drew.setCell (by simp) _).setCell (by simp) _⟩
   case measure => simp [intOf]; omega
  ·have HS := gI hs
   have HK := gI hk
   have HR := gI (hr.done (by rw [← HN.out]; omega))
   clear hs hk hr
   go_wp2
   go_end0
   exact ⟨rfl, by have h := HS.out; rw [HR.out] at h; simpa using h, HK.out⟩
end Go.Proofs.YtkekenaamnhbhaaGreat
