/- Part 18 of the proof. No condition: every lemma says its own. -/
import Derived.Test.YtphnbmdcgcchaaaDoorEao
namespace Go.Proofs.YtphnbmdcgcchaaaDoor
open Go.RowKit Go.Sort Go.BigFrame
open Go.RowKit Go.Sort Go.BigFrame Classical
set_option maxRecDepth 100000
set_option maxHeartbeats 16000000
section
theorem infoGr : (Tryd.prog.info? 113).map (fun i => (i.zero, i.size, i.bytes)) = some (some (.agg #[.slice none 0 0, .int .i64 0, .int .i64 0]), 3, 40) := by kernel_rfl
structure GB where
 g : Grp Tri
 a : Option Nat
 c : Nat
def GB.cells (b : GB) : List Value := [sv b.a b.g.sts.length b.c, .int .i64 b.g.bef, .int .i64 b.g.cls]
def flatG : List GB → List Value
 | [] => []
 | b :: r => b.cells ++ flatG r
theorem flatG_length : ∀ l : List GB, (flatG l).length = l.length * 3
 | [] => rfl
 | b :: r => by
  have := flatG_length r
  simp only [flatG, GB.cells, List.length_append, List.length_cons, List.length_nil]
  omega
theorem flatG_append : ∀ l r : List GB, flatG (l ++ r) = flatG l ++ flatG r
 | [], _ => rfl
 | b :: l, r => by rw [List.cons_append, flatG, flatG, flatG_append l r, List.append_assoc]
theorem flatG_get : ∀ (l : List GB) (i : Nat) (h : i < l.length), (flatG l)[i * 3]? = some (sv l[i].a l[i].g.sts.length l[i].c) ∧ (flatG l)[i * 3 + 1]? = some (.int .i64 l[i].g.bef) ∧ (flatG l)[i * 3 + 2]? = some (.int .i64 l[i].g.cls)
 | b :: r, 0, _ => ⟨rfl, rfl, rfl⟩
 | b :: r, i + 1, h => by
  have ih := flatG_get r i (by simpa using h)
  rw [Nat.succ_mul]
  exact ih
def gblocks (l : List GB) : List Nat := l.flatMap fun b => b.a.toList
structure GrpAt (N0 : Nat) (w : World) (ga : Option Nat) (gc : Nat) (l : List GB) : Prop where
 row : SliceAt w 113 3 ga l.length gc (flatG l)
 sts : ∀ b ∈ l, SliceAt w 92 3 b.a b.g.sts.length b.c (triF b.g.sts)
 nd : (ga.toList ++ gblocks l).Nodup
 ge : ∀ x ∈ ga.toList ++ gblocks l, N0 ≤ x
theorem mem_gblocks {l : List GB} {x : Nat} : x ∈ gblocks l ↔ ∃ b ∈ l, b.a = some x := by
 simp [gblocks, List.mem_flatMap]
variable {N0 gc : Nat} {w w' : World} {ga : Option Nat} {l : List GB}
theorem GrpAt.keep (h : GrpAt N0 w ga gc l) {S : List Nat} (k : Keeps S w w') (hS : ∀ x ∈ S, x ∉ ga.toList ++ gblocks l) : GrpAt N0 w' ga gc l :=
 ⟨h.row.keep k fun g hg hs => hS g hs (by simp [hg]), fun b hb => (h.sts b hb).keep k fun g hg hs => hS g hs (List.mem_append.2 (.inr (mem_gblocks.2 ⟨b, hb, hg⟩))), h.nd, h.ge⟩
theorem GrpAt.lt (h : GrpAt N0 w ga gc l) : ∀ x ∈ ga.toList ++ gblocks l, x < w.heap.size := by
 intro x hx
 rcases List.mem_append.1 hx with hx | hx
 ·have hr := h.row
  rw [show ga = some x by simpa using hx] at hr
  exact hr.lt
 ·obtain ⟨b, hb, he⟩ := mem_gblocks.1 hx
  have hs := h.sts b hb
  rw [he] at hs
  exact hs.lt
theorem gblocks_append (l r : List GB) : gblocks (l ++ r) = gblocks l ++ gblocks r := by simp [gblocks]
theorem GrpAt.push (h : GrpAt N0 w ga gc l) {b : GB} (hb : b.g.sts = []) (ha : b.a = none) (hc : b.c = 0) {g c' : Nat} (hs : SliceAt w' 113 3 (some g) (l.length + 1) c' (flatG l ++ b.cells)) (k : Keeps ga.toList w w') (hg : ga = some g ∨ w.heap.size ≤ g) (hN : N0 ≤ w.heap.size) :
  GrpAt N0 w' (some g) c' (l ++ [b]) := by
 have hnd := h.nd
 rw [List.nodup_append] at hnd
 obtain ⟨n1, n2, n3⟩ := hnd
 have hgb : gblocks (l ++ [b]) = gblocks l := by rw [gblocks_append]; simp [gblocks, ha]
 refine ⟨by rw [List.length_append, List.length_singleton, flatG_append]; simpa [flatG] using hs, fun x hx => ?_, ?_, fun x hx => ?_⟩
 ·rcases List.mem_append.1 hx with hx | hx
  ·refine (h.sts x hx).keep k fun q hq hm => ?_
   exact n3 q hm q (mem_gblocks.2 ⟨x, hx, hq⟩) rfl
  ·simp at hx
   subst hx
   rw [hb, ha, hc]
   exact SliceAt.nil _ _ _
 ·rw [hgb, List.nodup_append]
  refine ⟨by simp, n2, fun x hx y hy => ?_⟩
  simp at hx
  subst hx
  rintro rfl
  rcases hg with hg | hg
  ·exact n3 x (by simp [hg]) x hy rfl
  ·have := h.lt x (List.mem_append.2 (.inr hy)); omega
 ·rw [hgb] at hx
  rcases List.mem_append.1 hx with hx | hx
  ·simp at hx
   subst hx
   rcases hg with hg | hg
   ·exact h.ge x (by simp [hg])
   ·omega
  ·exact h.ge x (List.mem_append.2 (.inr hx))
theorem SliceAt.setQ {w : World} {e size g n c : Nat} {xs : List Value} (h : SliceAt w e size (some g) n c xs) (i : Nat) (v : Value) : SliceAt (w.setCell ⟨g, i, none⟩ v) e size (some g) n c (xs.set i v) := by
 obtain ⟨h1, cur, h2, h3, h4, h5, h6⟩ := h
 refine ⟨by simpa using h1, _, heap_setCell_same w g i _ e v h2, h3, h4, by simpa using h5, ?_⟩
 subst h6
 simp [List.take_set]
theorem flatG_setLast (l : List GB) (b b' : GB) (hb : b'.g.bef = b.g.bef) (hc : b'.g.cls = b.g.cls) : (flatG (l ++ [b])).set (l.length * 3) (sv b'.a b'.g.sts.length b'.c) = flatG (l ++ [b']) := by
 rw [flatG_append, flatG_append, ← flatG_length, List.set_append_right _ _ (by omega), Nat.sub_self]
 simp [flatG, GB.cells, hb, hc]
theorem GrpAt.addLast {w1 : World} {g : Nat} {b : GB} (h : GrpAt N0 w (some g) gc (l ++ [b])) (t : Tri) {s c' : Nat} (hs : SliceAt w1 92 3 (some s) (b.g.sts.length + 1) c' (triF b.g.sts ++ triL t)) (k : Keeps b.a.toList w w1) (hsb : b.a = some s ∨ w.heap.size ≤ s) (hN : N0 ≤ w.heap.size) :
  GrpAt N0 (w1.setCell ⟨g, l.length * 3, none⟩ (sv (some s) (b.g.sts.length + 1) c')) (some g) gc (l ++ [⟨{ b.g with sts := b.g.sts ++ [t] }, some s, c'⟩]) := by
 have hlt := h.lt
 have hnd := h.nd
 rw [gblocks_append, List.nodup_append] at hnd
 obtain ⟨n1, n2, n3⟩ := hnd
 rw [List.nodup_append] at n2
 obtain ⟨m1, m2, m3⟩ := n2
 have hbg : gblocks [b] = b.a.toList := by simp [gblocks]
 have hgs : g ≠ s := fun e => by
  subst e
  rcases hsb with hsb | hsb
  ·exact n3 g (by simp) g (List.mem_append.2 (.inr (by rw [hbg]; simp [hsb]))) rfl
  ·have := hlt g (by simp); omega
 have hsl : s ∉ gblocks l := fun hm => by
  rcases hsb with hsb | hsb
  ·exact m3 s hm s (by rw [hbg]; simp [hsb]) rfl
  ·have := hlt s (by rw [gblocks_append]; simp [hm]); omega
 have hgb : ∀ x, x ∈ b.a.toList → x ≠ g := fun x hx e => n3 g (by simp) x (List.mem_append.2 (.inr (by rw [hbg]; exact hx))) e.symm
 have kg : Keeps [g] w1 (w1.setCell ⟨g, l.length * 3, none⟩ (sv (some s) (b.g.sts.length + 1) c')) := (Keeps.refl [g] w1).setCell (by simp) _
 have hrow := (h.row.keep k (fun q hq hm => by simp at hq; subst hq; exact hgb _ hm rfl)).setQ (l.length * 3) (sv (some s) (b.g.sts.length + 1) c')
 refine ⟨?_, fun x hx => ?_, ?_, fun x hx => ?_⟩
 ·have e := flatG_setLast l b ⟨{ b.g with sts := b.g.sts ++ [t] }, some s, c'⟩ rfl rfl
  simp only [List.length_append, List.length_singleton] at e hrow ⊢
  rw [e] at hrow
  exact hrow
 ·rcases List.mem_append.1 hx with hx | hx
  ·refine ((h.sts x (by simp [hx])).keep k fun q hq hm => ?_).keep kg fun q hq hm => ?_
   ·exact m3 q (mem_gblocks.2 ⟨x, hx, hq⟩) q (by rw [hbg]; exact hm) rfl
   ·simp at hm
    subst hm
    exact n3 q (by simp) q (List.mem_append.2 (.inl (mem_gblocks.2 ⟨x, hx, hq⟩))) rfl
  ·simp only [List.mem_singleton] at hx
   subst hx
   simp only [List.length_append, List.length_singleton, triF_append]
   have h5 := hs.keep kg (fun q hq => by simp at hq; subst hq; simp; exact Ne.symm hgs)
   simpa [triF] using h5
 ·have e : gblocks (l ++ [⟨{ b.g with sts := b.g.sts ++ [t] }, some s, c'⟩]) = gblocks l ++ [s] := by rw [gblocks_append]; simp [gblocks]
  rw [e, List.nodup_append]
  refine ⟨by simp, ?_, fun x hx y hy => ?_⟩
  ·rw [List.nodup_append]
   refine ⟨m1, by simp, fun x hx y hy => ?_⟩
   simp at hy
   subst hy
   rintro rfl
   exact hsl hx
  ·simp at hx
   subst hx
   rintro rfl
   rcases List.mem_append.1 hy with hy | hy
   ·exact n3 x (by simp) x (List.mem_append.2 (.inl hy)) rfl
   ·simp at hy
    exact hgs hy
 ·have e : gblocks (l ++ [⟨{ b.g with sts := b.g.sts ++ [t] }, some s, c'⟩]) = gblocks l ++ [s] := by rw [gblocks_append]; simp [gblocks]
  rw [e] at hx
  rcases List.mem_append.1 hx with hx | hx
  ·exact h.ge x (List.mem_append.2 (.inl hx))
  ·rcases List.mem_append.1 hx with hx | hx
   ·exact h.ge x (by rw [gblocks_append]; simp [hx])
   ·simp at hx
    subst hx
    rcases hsb with hsb | hsb
    ·exact h.ge x (by rw [gblocks_append, hbg]; simp [hsb])
    ·omega
end
def gsts (l : List GB) : List Tri := l.flatMap fun b => b.g.sts
theorem mem_gsts {l : List GB} {t : Tri} : t ∈ gsts l ↔ ∃ b ∈ l, t ∈ b.g.sts := by simp [gsts, List.mem_flatMap]
structure FoundAt (dom : List Tri) (w : World) (p9 fb : Nat) (l : List GB) : Prop where
 c9 : w.cell? ⟨p9, 0, none⟩ = some (.map (some fb))
 map : ∃ gF, MapAt w Tryd.prog 92 fb dom.length gF ∧ (∀ t, TOK t → gF (triv t) = if t ∈ gsts l then some (.bool true) else none) ∧ ∀ v, IsKey Tryd.prog 92 v → gF v ≠ none → v ∈ dom.map triv
structure SInv (W0 : World) (OKs : Tri → Prop) (dom : List Tri) (succ : Tri → Int → Tri → Prop) (s0 goal : Tri) (p9 fb gn gc i : Nat) (l : List GB) (w : World) : Prop where
 le : i ≤ l.length
 grp : GrpAt W0.heap.size w (some gn) gc l
 bfs : Bfs succ s0 (l.map GB.g) i
 fnd : FoundAt dom w p9 fb l
 nd : (gsts l).Nodup
 ok : ∀ t ∈ gsts l, OKs t
 ng : goal ∉ gsts l
 ne : ∀ b ∈ l, b.g.sts ≠ []
 kp : Keeps [] W0 w
 ap : (p9 :: fb :: gn :: gblocks l).Nodup
 ge : W0.heap.size ≤ p9 ∧ W0.heap.size ≤ fb
theorem SInv.start {W0 w : World} {OKs : Tri → Prop} {dom : List Tri} {succ : Tri → Int → Tri → Prop} {s0 goal : Tri} {p9 fb gn st : Nat} {gF : Value → Option Value} (hok : OKs s0) (hdm : s0 ∈ dom) (hne : s0 ≠ goal) (kp : Keeps [] W0 w)
  (hg : w.heap[gn]? = some (.cells #[.slice (some ⟨st, 0, none⟩) 1 1, .int .i64 (-1), .int .i64 0] 113 (0, 0))) (hs : w.heap[st]? = some (.cells (triL s0).toArray 92 (0, 0)))
  (h9 : w.cell? ⟨p9, 0, none⟩ = some (.map (some fb))) (hm : MapAt w Tryd.prog 92 fb 1 gF) (hF : ∀ v, gF v = if v = triv s0 then some (.bool true) else none)
  (hap : (p9 :: fb :: gn :: [st]).Nodup) (hge : ∀ x ∈ p9 :: fb :: gn :: [st], W0.heap.size ≤ x) :
  SInv W0 OKs dom succ s0 goal p9 fb gn 1 0 [⟨⟨[s0], -1, 0, []⟩, some st, 1⟩] w := by
 have hlen : 1 ≤ dom.length := List.length_pos_of_mem hdm
 refine ⟨Nat.zero_le _, ⟨?_, fun b hb => ?_, ?_, fun x hx => ?_⟩, Bfs.start succ s0, ⟨h9, gF, hm.mono hlen, fun t _ => ?_, fun v _ hv => ?_⟩, by simp [gsts], fun t ht => ?_, ?_, by simp, kp, by simpa [gblocks] using hap, hge _ (by simp), hge _ (by simp)⟩
 ·have h := SliceAt.of_row (size := 3) (c := 1) hg (by simp) (by unfold maxLen; omega)
  simpa [flatG, GB.cells, sv] using h
 ·simp only [List.mem_singleton] at hb
  subst hb
  have h := SliceAt.of_row (size := 3) (c := 1) hs (by simp [triL]) (by unfold maxLen; omega)
  simpa [triF] using h
 ·simp [gblocks] at hap ⊢
  omega
 ·exact hge x (by simp [gblocks] at hx ⊢; omega)
 ·rw [hF]
  by_cases h : t = s0
  ·subst h; simp [gsts]
  ·rw [if_neg (fun e => h (triv_inj e)), if_neg (by simpa [gsts] using h)]
 ·rw [hF] at hv
  by_cases h : v = triv s0
  ·subst h; exact List.mem_map.2 ⟨s0, hdm, rfl⟩
  ·rw [if_neg h] at hv; exact absurd rfl hv
 ·simp [gsts] at ht
  subst ht
  exact hok
 ·simp [gsts]
  exact fun h => hne h.symm
theorem gsts_len : ∀ {l : List GB}, (∀ b ∈ l, b.g.sts ≠ []) → l.length ≤ (gsts l).length
 | [], _ => Nat.zero_le _
 | b :: r, h => by
  have h1 := gsts_len (l := r) fun x hx => h x (by simp [hx])
  have h2 := List.length_pos_iff.2 (h b (by simp))
  have e : gsts (b :: r) = b.g.sts ++ gsts r := by simp [gsts]
  rw [e, List.length_append, List.length_cons]
  omega
theorem SInv.len {W0 w : World} {OKs : Tri → Prop} {dom : List Tri} {succ : Tri → Int → Tri → Prop} {s0 goal : Tri} {p9 fb gn gc i : Nat} {l : List GB} (h : SInv W0 OKs dom succ s0 goal p9 fb gn gc i l w) (hd : ∀ t, OKs t → t ∈ dom) : l.length ≤ dom.length :=
 Nat.le_trans (gsts_len h.ne) (nodup_le h.nd fun t ht => hd t (h.ok t ht))
section
theorem SliceAt.tri {w : World} {E g n c : Nat} {zs : List Tri} (h : SliceAt w E 3 (some g) n c (triF zs)) (i : Nat) (hi : i < zs.length) : w.cell? ⟨g, i * 3, none⟩ = some (.int .i64 (zs.getD i z0).1) ∧ w.cell? ⟨g, i * 3 + 1, none⟩ = some (.int .i64 (zs.getD i z0).2.1) ∧ w.cell? ⟨g, i * 3 + 2, none⟩ = some (.int .i64 (zs.getD i z0).2.2) := by
 have hl := triF_length zs
 have h1 := triF_get zs [] i hi
 simp only [List.append_nil] at h1
 refine ⟨?_, ?_, ?_⟩
 ·rw [h.cell (i * 3) (by omega), ← List.getElem?_eq_getElem]; exact h1.1
 ·rw [h.cell (i * 3 + 1) (by omega), ← List.getElem?_eq_getElem]; exact h1.2.1
 ·rw [h.cell (i * 3 + 2) (by omega), ← List.getElem?_eq_getElem]; exact h1.2.2
theorem SliceAt.some_of {w : World} {E g n c : Nat} {a : Option Nat} {xs : List Value} (h : SliceAt w E g a n c xs) (h0 : 0 < n) : ∃ b, a = some b := by
 cases a with
 | none => have := h.2.1; omega
 | some b => exact ⟨b, rfl⟩
def lstOf (gL : Value → Option Value) (t : Tri) : Int := match gL (triv t) with
 | some (.int .i64 m) => m
 | _ => 0
theorem lstOf_eq {gL : Value → Option Value} {t : Tri} {m : Int} (h : gL (triv t) = some (.int .i64 m)) : lstOf gL t = m := by simp [lstOf, h]
def FMap (dom : List Tri) (w : World) (fb : Nat) (P : Tri → Prop) : Prop :=
 ∃ gF, MapAt w Tryd.prog 92 fb dom.length gF ∧ (∀ t, TOK t → gF (triv t) = if P t then some (.bool true) else none) ∧ ∀ v, IsKey Tryd.prog 92 v → gF v ≠ none → v ∈ dom.map triv
theorem FMap.congr {dom : List Tri} {w : World} {fb : Nat} {P Q : Tri → Prop} (h : FMap dom w fb P) (e : ∀ t, P t ↔ Q t) : FMap dom w fb Q := by
 have : P = Q := funext fun t => propext (e t)
 rw [← this]; exact h
theorem FMap.keep {dom : List Tri} {w w' : World} {fb : Nat} {P : Tri → Prop} {S : List Nat} (h : FMap dom w fb P) (k : Keeps S w w') (hs : fb ∉ S) : FMap dom w' fb P := by
 obtain ⟨gF, h1, h2, h3⟩ := h
 exact ⟨gF, h1.keep k hs, h2, h3⟩
theorem FMap.put {dom : List Tri} {w' : World} {fb n : Nat} {P : Tri → Prop} {gF : Value → Option Value} {s : Tri} (h2 : ∀ t, TOK t → gF (triv t) = if P t then some (.bool true) else none) (h3 : ∀ v, IsKey Tryd.prog 92 v → gF v ≠ none → v ∈ dom.map triv) (hs : s ∈ dom)
  (h : MapAt w' Tryd.prog 92 fb n (fun u => if u = triv s then some (.bool true) else gF u)) : FMap dom w' fb (fun t => t = s ∨ P t) := by
 have hk : ∀ v, IsKey Tryd.prog 92 v → (if v = triv s then some (Value.bool true) else gF v) ≠ none → v ∈ dom.map triv := fun v hv hne => by
  by_cases e : v = triv s
  ·subst e; exact List.mem_map.2 ⟨s, hs, rfl⟩
  ·rw [if_neg e] at hne; exact h3 v hv hne
 refine ⟨_, by simpa using h.tight triKeyed _ hk, fun t ht => ?_, hk⟩
 by_cases e : t = s
 ·subst e; simp
 ·rw [if_neg (fun h => e (triv_inj h)), h2 t ht]
  simp [e]
theorem FMap.of {dom : List Tri} {w : World} {p9 fb : Nat} {l : List GB} (h : FoundAt dom w p9 fb l) : FMap dom w fb (fun t => t ∈ gsts l) := by
 obtain ⟨gF, h1, h2, h3⟩ := h.map
 exact ⟨gF, h1, fun t ht => by rw [h2 t ht]; by_cases e : t ∈ gsts l <;> simp [e], h3⟩
theorem FMap.to {dom : List Tri} {w : World} {fb : Nat} {l : List GB} (h : FMap dom w fb (fun t => t ∈ gsts l)) : ∃ gF, MapAt w Tryd.prog 92 fb dom.length gF ∧ (∀ t, TOK t → gF (triv t) = if t ∈ gsts l then some (.bool true) else none) ∧ ∀ v, IsKey Tryd.prog 92 v → gF v ≠ none → v ∈ dom.map triv := by
 obtain ⟨gF, h1, h2, h3⟩ := h
 exact ⟨gF, h1, fun t ht => by rw [h2 t ht]; by_cases e : t ∈ gsts l <;> simp [e], h3⟩
structure YS (OKs : Tri → Prop) (dom : List Tri) (succ : Tri → Int → Tri → Prop) (l0 : List GB) (k : Nat) (lst : Tri → Int) (ys : List Tri) : Prop where
 nd : ys.Nodup
 new : ∀ t ∈ ys, t ∉ gsts l0
 ok : ∀ t ∈ ys, OKs t ∧ TOK t ∧ t ∈ dom
 srt : ∀ p q, p < q → q < ys.length → lst (ys.getD p z0) ≤ lst (ys.getD q z0)
 suc : ∀ t ∈ ys, ∃ p ∈ sts (l0.map GB.g) k, succ p (lst t) t
 least : ∀ t ∈ ys, ∀ p ∈ sts (l0.map GB.g) k, ∀ c, succ p c t → lst t ≤ c
 all : ∀ p ∈ sts (l0.map GB.g) k, ∀ c u, succ p c u → u ∈ gsts l0 ∨ u ∈ ys
theorem take_succ_getD {ys : List Tri} {j : Nat} (hj : j < ys.length) : ys.take (j + 1) = ys.take j ++ [ys.getD j z0] := by
 rw [List.take_add_one, List.getElem?_eq_getElem hj]
 simp [List.getD, hj]
theorem mem_take_getD {ys : List Tri} {j : Nat} {t : Tri} (h : t ∈ ys.take j) : ∃ p, p < j ∧ p < ys.length ∧ ys.getD p z0 = t := by
 obtain ⟨p, hp, rfl⟩ := List.mem_iff_getElem.1 h
 simp only [List.length_take] at hp
 exact ⟨p, by omega, by omega, by simp [List.getD, show p < ys.length by omega]⟩
theorem getD_mem_tri {ys : List Tri} {j : Nat} (hj : j < ys.length) : ys.getD j z0 ∈ ys := by
 simp [List.getD, hj]
theorem YS.notake {OKs : Tri → Prop} {dom : List Tri} {succ : Tri → Int → Tri → Prop} {l0 : List GB} {k : Nat} {lst : Tri → Int} {ys : List Tri} (h : YS OKs dom succ l0 k lst ys) {j : Nat} (hj : j < ys.length) : ys.getD j z0 ∉ ys.take j := fun hm => by
 obtain ⟨p, h1, h2, h3⟩ := mem_take_getD hm
 have := List.pairwise_iff_getElem.1 h.nd p j h2 hj h1
 simp [List.getD, h2, hj] at h3
 exact this h3
structure BI (W0 wS : World) (dom : List Tri) (l0 : List GB) (k fb gn0 : Nat) (lst : Tri → Int) (ys : List Tri) (j gn gc : Nat) (l : List GB) (w : World) : Prop where
 kp : Keeps (fb :: gn0 :: gblocks l0) wS w
 grp : GrpAt W0.heap.size w (some gn) gc l
 mp : FMap dom w fb (fun t => t ∈ gsts l0 ∨ t ∈ ys.take j)
 mid : Mid (l0.map GB.g) k (l.map GB.g) ((ys.take j).map fun t => (t, lst t))
 mem : ∀ t, t ∈ gsts l ↔ t ∈ gsts l0 ∨ t ∈ ys.take j
 nd : (gsts l).Nodup
 last : 0 < j → ∃ i b, l = i ++ [b] ∧ l0.length ≤ i.length ∧ b.g.cls = lst (ys.getD (j - 1) z0)
 frs : ∀ x ∈ gn :: gblocks l, x ∈ gn0 :: gblocks l0 ∨ wS.heap.size ≤ x
structure BP (W0 wS : World) (dom : List Tri) (l0 : List GB) (k fb gn0 : Nat) (lst : Tri → Int) (ys : List Tri) (j gn gc : Nat) (i : List GB) (b : GB) (w : World) : Prop where
 kp : Keeps (fb :: gn0 :: gblocks l0) wS w
 grp : GrpAt W0.heap.size w (some gn) gc (i ++ [b])
 mp : FMap dom w fb (fun t => t ∈ gsts l0 ∨ t ∈ ys.take (j + 1))
 mid : Mid (l0.map GB.g) k (i.map GB.g ++ [{ b.g with sts := b.g.sts ++ [ys.getD j z0] }]) ((ys.take (j + 1)).map fun t => (t, lst t))
 mem : ∀ t, t ∈ gsts (i ++ [b]) ↔ t ∈ gsts l0 ∨ t ∈ ys.take j
 nd : (gsts (i ++ [b])).Nodup
 il : l0.length ≤ i.length
 cls : b.g.cls = lst (ys.getD j z0)
 frs : ∀ x ∈ gn :: gblocks (i ++ [b]), x ∈ gn0 :: gblocks l0 ∨ wS.heap.size ≤ x
variable {W0 wS w w' : World} {dom : List Tri} {l0 l : List GB} {k fb gn0 j gn gc : Nat} {lst : Tri → Int} {ys : List Tri} {OKs : Tri → Prop} {succ : Tri → Int → Tri → Prop}
theorem BI.keep (h : BI W0 wS dom l0 k fb gn0 lst ys j gn gc l w) (hk : Keeps [] w w') : BI W0 wS dom l0 k fb gn0 lst ys j gn gc l w' :=
 ⟨h.kp.trans (hk.mono (by simp)), h.grp.keep hk (by simp), h.mp.keep hk (by simp), h.mid, h.mem, h.nd, h.last, h.frs⟩
theorem gsts_append (l r : List GB) : gsts (l ++ r) = gsts l ++ gsts r := by simp [gsts]
theorem BI.start (hg : GrpAt W0.heap.size wS (some gn0) gc l0) (hm : FMap dom wS fb (fun t => t ∈ gsts l0)) (hn : (gsts l0).Nodup) : BI W0 wS dom l0 k fb gn0 lst ys 0 gn0 gc l0 wS where
 kp := Keeps.refl _ _
 grp := hg
 mp := hm.congr (by simp)
 mid := by simpa using Mid.start (l0.map GB.g) k
 mem := by simp
 nd := hn
 last := fun h => absurd h (Nat.lt_irrefl 0)
 frs := fun x hx => .inl hx
theorem pushed {gs : List (Grp Tri)} {n : Nat} {x : Tri × Int} (h : ∀ g, gs.getLast? = some g → ¬ (n < gs.length ∧ g.cls = x.2)) : pushG n k gs x = gs ++ [⟨[x.1], k, x.2, wd gs k ++ [x.2]⟩] := by
 unfold pushG
 cases hg : gs.getLast? with
 | none => rfl
 | some g => simp only; rw [if_neg (h g hg)]
theorem BI.le (H : YS OKs dom succ l0 k lst ys) (hj : j < ys.length) : ∀ y ∈ (ys.take j).map (fun t => (t, lst t)), y.2 ≤ lst (ys.getD j z0) := fun y hy => by
 obtain ⟨t, ht, rfl⟩ := List.mem_map.1 hy
 obtain ⟨p, h1, h2, rfl⟩ := mem_take_getD ht
 exact H.srt p j h1 hj
theorem BI.len0 (h : BI W0 wS dom l0 k fb gn0 lst ys 0 gn gc l w) : l.length = l0.length := by
 have h1 := h.mid.len
 simp only [List.length_map] at h1
 rcases Nat.lt_or_ge l0.length l.length with hlt | hge
 ·exfalso
  obtain ⟨s, hs⟩ := h.mid.ne l0.length (by simp) (by simpa using hlt)
  have := (h.mid.mem l0.length (by simp) (by simpa using hlt) s).1 hs
  simp at this
 ·omega
theorem BI.same (h : BI W0 wS dom l0 k fb gn0 lst ys j gn gc l w) (H : YS OKs dom succ l0 k lst ys) (hk : k < l0.length) (hj : j < ys.length) (h0 : 0 < j) (he : lst (ys.getD j z0) = lst (ys.getD (j - 1) z0))
  (hw : Keeps (fb :: gn0 :: gblocks l0) wS w') (hgr : GrpAt W0.heap.size w' (some gn) gc l) (hm : FMap dom w' fb (fun t => t = ys.getD j z0 ∨ (t ∈ gsts l0 ∨ t ∈ ys.take j))) :
  ∃ i b, l = i ++ [b] ∧ BP W0 wS dom l0 k fb gn0 lst ys j gn gc i b w' := by
 obtain ⟨i, b, rfl, hil, hb⟩ := h.last h0
 have hp := h.mid.push (x := (ys.getD j z0, lst (ys.getD j z0))) (by simpa using hk) (BI.le H hj)
 refine ⟨i, b, rfl, hw, hgr, hm.congr fun t => by rw [take_succ_getD hj]; simp only [List.mem_append, List.mem_singleton]; constructor <;> (intro h; rcases h with h | h | h <;> simp [h]), ?_, h.mem, h.nd, hil, by rw [hb, he], h.frs⟩
 rw [take_succ_getD hj, List.map_append]
 have e : pushG (l0.map GB.g).length k ((i ++ [b]).map GB.g) (ys.getD j z0, lst (ys.getD j z0)) = i.map GB.g ++ [{ b.g with sts := b.g.sts ++ [ys.getD j z0] }] := by
  unfold pushG
  simp only [List.map_append, List.map_cons, List.map_nil, List.getLast?_append, List.getLast?_singleton, Option.some_or, List.dropLast_concat, List.length_append, List.length_map, List.length_cons, List.length_nil]
  rw [if_pos ⟨by omega, by rw [hb, he]⟩]
 rw [e] at hp
 exact hp
theorem BI.push (h : BI W0 wS dom l0 k fb gn0 lst ys j gn gc l w) (H : YS OKs dom succ l0 k lst ys) (hk : k < l0.length) (hj : j < ys.length) (hne : j = 0 ∨ lst (ys.getD j z0) ≠ lst (ys.getD (j - 1) z0)) {g c' : Nat}
  (hw : Keeps (fb :: gn0 :: gblocks l0) wS w') (hgr : GrpAt W0.heap.size w' (some g) c' (l ++ [⟨⟨[], k, lst (ys.getD j z0), wd (l.map GB.g) k ++ [lst (ys.getD j z0)]⟩, none, 0⟩])) (hg : gn = g ∨ wS.heap.size ≤ g)
  (hm : FMap dom w' fb (fun t => t = ys.getD j z0 ∨ (t ∈ gsts l0 ∨ t ∈ ys.take j))) :
  BP W0 wS dom l0 k fb gn0 lst ys j g c' l ⟨⟨[], k, lst (ys.getD j z0), wd (l.map GB.g) k ++ [lst (ys.getD j z0)]⟩, none, 0⟩ w' := by
 have hp := h.mid.push (x := (ys.getD j z0, lst (ys.getD j z0))) (by simpa using hk) (BI.le H hj)
 have hl := h.mid.len
 simp only [List.length_map] at hl
 rw [pushed] at hp
 ·refine ⟨hw, hgr, hm.congr fun t => by rw [take_succ_getD hj]; simp only [List.mem_append, List.mem_singleton]; constructor <;> (intro h; rcases h with h | h | h <;> simp [h]), ?_, fun t => ?_, ?_, hl, rfl, fun x hx => ?_⟩
  ·rw [take_succ_getD hj, List.map_append]
   exact hp
  ·rw [gsts_append]
   simpa [gsts] using h.mem t
  ·rw [gsts_append]
   simpa [gsts] using h.nd
  ·rw [gblocks_append] at hx
   simp only [List.mem_cons, List.mem_append] at hx
   rcases hx with rfl | hx | hx
   ·rcases hg with rfl | hg
    ·exact h.frs _ (by simp)
    ·exact .inr hg
   ·exact h.frs _ (by simp [hx])
   ·simp [gblocks] at hx
 ·intro g0 hg0
  rcases hne with rfl | hne
  ·have := h.len0
   simp only [List.length_map]
   omega
  ·rintro ⟨_, hc⟩
   rcases Nat.eq_zero_or_pos j with rfl | hj0
   ·exact hne rfl
   ·obtain ⟨i, b, rfl, _, hb⟩ := h.last hj0
    simp at hg0
    subst hg0
    exact hne (by rw [← hb]; exact hc.symm)
theorem BP.done {i : List GB} {b : GB} (h : BP W0 wS dom l0 k fb gn0 lst ys j gn gc i b w) (H : YS OKs dom succ l0 k lst ys) (hj : j < ys.length) (hfb : fb ∉ gn0 :: gblocks l0) (hfl : fb < wS.heap.size) (hN : W0.heap.size ≤ wS.heap.size) {st c' : Nat}
  (hs : SliceAt w' 92 3 (some st) (b.g.sts.length + 1) c' (triF b.g.sts ++ triL (ys.getD j z0))) (hk : Keeps b.a.toList w w') (hsb : b.a = some st ∨ w.heap.size ≤ st) :
  BI W0 wS dom l0 k fb gn0 lst ys (j + 1) gn gc (i ++ [⟨{ b.g with sts := b.g.sts ++ [ys.getD j z0] }, some st, c'⟩]) (w'.setCell ⟨gn, i.length * 3, none⟩ (sv (some st) (b.g.sts.length + 1) c')) := by
 have hwS := h.kp.size
 have hba : ∀ x ∈ b.a.toList, x ∈ gblocks (i ++ [b]) := fun x hx => by rw [gblocks_append]; simp [gblocks] at hx ⊢; exact .inr hx
 have hfn : fb ∉ b.a.toList := fun hm => by
  rcases h.frs fb (by simp [hba fb hm]) with e | e
  ·exact hfb e
  ·omega
 have hfg : fb ≠ gn := fun e => by
  rcases h.frs gn (by simp) with e' | e'
  ·exact hfb (e ▸ e')
  ·omega
 have kg : Keeps [gn] w' (w'.setCell ⟨gn, i.length * 3, none⟩ (sv (some st) (b.g.sts.length + 1) c')) := (Keeps.refl [gn] w').setCell (by simp) _
 have e1 : gsts (i ++ [⟨{ b.g with sts := b.g.sts ++ [ys.getD j z0] }, some st, c'⟩]) = gsts (i ++ [b]) ++ [ys.getD j z0] := by
  rw [gsts_append, gsts_append]
  simp [gsts]
 refine ⟨?_, h.grp.addLast (ys.getD j z0) hs hk hsb (by omega), (h.mp.keep hk hfn).keep kg (by simpa using hfg), ?_, fun t => ?_, ?_, fun _ => ⟨i, _, rfl, h.il, by simpa using h.cls⟩, fun x hx => ?_⟩
 ·refine (h.kp.after hk fun x hx => ?_).after kg fun x hx => ?_
  ·rcases h.frs x (by simp [hba x hx]) with e | e
   ·exact .inl (by simp at e ⊢; exact .inr e)
   ·exact .inr e
  ·simp at hx
   subst hx
   rcases h.frs x (by simp) with e | e
   ·exact .inl (by simp at e ⊢; exact .inr e)
   ·exact .inr e
 ·simpa using h.mid
 ·rw [e1, take_succ_getD hj]
  simp only [List.mem_append, List.mem_singleton]
  rw [h.mem t, or_assoc]
 ·rw [e1, List.nodup_append]
  refine ⟨h.nd, by simp, fun x hx y hy => ?_⟩
  simp at hy
  subst hy
  rintro rfl
  rcases (h.mem _).1 hx with e | e
  ·exact H.new _ (getD_mem_tri hj) e
  ·exact H.notake hj e
 ·rw [gblocks_append] at hx
  simp only [List.mem_cons, List.mem_append] at hx
  rcases hx with rfl | hx | hx
  ·exact h.frs _ (by simp)
  ·exact h.frs _ (by rw [gblocks_append]; simp [hx])
  ·simp [gblocks] at hx
   subst hx
   rcases hsb with hsb | hsb
   ·exact h.frs _ (by simp [hba x (by simp [hsb])])
   ·exact .inr (by omega)
def Links (gs : List (Grp Tri)) : Prop := (gs.getD 0 .none).bef = -1 ∧ wd gs 0 = [] ∧ ∀ q, 0 < q → q < gs.length → ∃ b : Nat, (gs.getD q .none).bef = b ∧ b < q ∧ wd gs q = wd gs b ++ [(gs.getD q .none).cls]
theorem Links.of {gs gs' : List (Grp Tri)} {s0 : Tri} {D : List (Tri × Int)} (h : Mid gs k gs' D) (B : Bfs succ s0 gs k) (hk : k < gs.length) : Links gs' := by
 have e : ∀ q, q < gs.length → wd gs' q = wd gs q := fun q hq => by rw [wd, wd, h.old q hq]
 refine ⟨by rw [h.old 0 B.pos, B.head], by rw [e 0 B.pos, B.wd0], fun q h0 hq => ?_⟩
 rcases Nat.lt_or_ge q gs.length with hl | hl
 ·obtain ⟨b, h1, h2, h3, h4⟩ := B.link q h0 hl
  exact ⟨b, by rw [h.old q hl]; exact h1, h2, by rw [e q hl, e b (by omega), h.old q hl]; exact h4⟩
 ·obtain ⟨h1, h2⟩ := h.new q hl hq
  exact ⟨k, h1, by omega, by rw [e k hk]; exact h2⟩
theorem Links.len {gs : List (Grp Tri)} (h : Links gs) : ∀ q, q < gs.length → (wd gs q).length ≤ q := by
 intro q
 induction q using Nat.strongRecOn with
 | ind q ih =>
  intro hq
  rcases Nat.eq_zero_or_pos q with rfl | h0
  ·rw [h.2.1]; exact Nat.le_refl 0
  ·obtain ⟨b, _, h2, h3⟩ := h.2.2 q h0 hq
   have := ih b h2 (by omega)
   rw [h3, List.length_append, List.length_singleton]
   omega
theorem BI.found {s0 : Tri} (h : BI W0 wS dom l0 k fb gn0 lst ys (j + 1) gn gc l w) (H : YS OKs dom succ l0 k lst ys) (B : Bfs succ s0 (l0.map GB.g) k) (hk : k < l0.length) (hj : j < ys.length) : 0 < l.length ∧ Least succ s0 (wd (l.map GB.g) (l.length - 1)) (ys.getD j z0) := by
 obtain ⟨i, b, rfl, hil, hb⟩ := h.last (Nat.succ_pos j)
 have hm := getD_mem_tri hj
 have hw : wd ((i ++ [b]).map GB.g) ((i ++ [b]).length - 1) = wd (l0.map GB.g) k ++ [lst (ys.getD j z0)] := by
  have h1 := (h.mid.new i.length (by simpa using hil) (by simp)).2
  have e : ((i ++ [b]).map GB.g).getD i.length .none = b.g := by
   rw [List.map_append, List.map_singleton, getD_snoc, if_pos (by simp)]
  rw [e] at h1
  rw [wd, show (i ++ [b]).length - 1 = i.length by simp, e, h1, hb]
  rfl
 refine ⟨by simp, ?_⟩
 rw [hw]
 refine B.least (by simpa using hk) (H.suc _ hm) (H.least _ hm) fun q hq hs => H.new _ hm (mem_gsts.2 ?_)
 have hq' : q < l0.length := by simpa using hq
 refine ⟨l0[q], List.getElem_mem hq', ?_⟩
 simpa [Go.Proofs.YtphnbmdcgcchaaaDoor.sts, List.getD, hq'] using hs
theorem sts_map {l : List GB} {q : Nat} (hq : q < l.length) : sts (l.map GB.g) q = l[q].g.sts := by simp [Go.Proofs.YtphnbmdcgcchaaaDoor.sts, List.getD, hq]
theorem BI.ne (h : BI W0 wS dom l0 k fb gn0 lst ys j gn gc l w) (hne : ∀ b ∈ l0, b.g.sts ≠ []) : ∀ b ∈ l, b.g.sts ≠ [] := fun b hb => by
 obtain ⟨q, hq, rfl⟩ := List.mem_iff_getElem.1 hb
 rw [← sts_map hq]
 rcases Nat.lt_or_ge q l0.length with hq0 | hq0
 ·have e := h.mid.old q (by simpa using hq0)
  rw [Go.Proofs.YtphnbmdcgcchaaaDoor.sts, e, ← Go.Proofs.YtphnbmdcgcchaaaDoor.sts, sts_map hq0]
  exact hne _ (List.getElem_mem hq0)
 ·obtain ⟨s, hs⟩ := h.mid.ne q (by simpa using hq0) (by simpa using hq)
  intro e
  rw [e] at hs
  cases hs
theorem BI.len (h : BI W0 wS dom l0 k fb gn0 lst ys j gn gc l w) (H : YS OKs dom succ l0 k lst ys) (hne : ∀ b ∈ l0, b.g.sts ≠ []) (hd : ∀ t ∈ gsts l0, t ∈ dom) : l.length ≤ dom.length :=
 Nat.le_trans (gsts_len (h.ne hne)) (nodup_le h.nd fun t ht => by
  rcases (h.mem t).1 ht with e | e
  ·exact hd t e
  ·exact (H.ok t (List.mem_of_mem_take e)).2.2)
theorem BP.len {i : List GB} {b : GB} (h : BP W0 wS dom l0 k fb gn0 lst ys j gn gc i b w) (H : YS OKs dom succ l0 k lst ys) (hj : j < ys.length) (hne : ∀ b ∈ l0, b.g.sts ≠ []) (hd : ∀ t ∈ gsts l0, t ∈ dom) : i.length + 1 ≤ dom.length ∧ b.g.sts.length ≤ dom.length := by
 have hin : ∀ t ∈ gsts (i ++ [b]) ++ [ys.getD j z0], t ∈ dom := fun t ht => by
  rcases List.mem_append.1 ht with ht | ht
  ·rcases (h.mem t).1 ht with e | e
   ·exact hd t e
   ·exact (H.ok t (List.mem_of_mem_take e)).2.2
  ·simp at ht
   subst ht
   exact (H.ok _ (getD_mem_tri hj)).2.2
 have hnd : (gsts (i ++ [b]) ++ [ys.getD j z0]).Nodup := by
  rw [List.nodup_append]
  refine ⟨h.nd, by simp, fun x hx y hy => ?_⟩
  simp at hy
  subst hy
  rintro rfl
  rcases (h.mem _).1 hx with e | e
  ·exact H.new _ (getD_mem_tri hj) e
  ·exact H.notake hj e
 have h1 := nodup_le hnd hin
 have hi : i.length ≤ (gsts i).length := gsts_len fun c hc => by
  obtain ⟨q, hq, rfl⟩ := List.mem_iff_getElem.1 hc
  have e0 : (i.map GB.g ++ [{ b.g with sts := b.g.sts ++ [ys.getD j z0] }]).getD q .none = (i.map GB.g).getD q .none := by rw [getD_snoc, if_neg (by simp; omega)]
  rw [← sts_map hq]
  rcases Nat.lt_or_ge q l0.length with hq0 | hq0
  ·have e := h.mid.old q (by simpa using hq0)
   rw [e0] at e
   rw [Go.Proofs.YtphnbmdcgcchaaaDoor.sts, e, ← Go.Proofs.YtphnbmdcgcchaaaDoor.sts, sts_map hq0]
   exact hne _ (List.getElem_mem hq0)
  ·obtain ⟨s, hs⟩ := h.mid.ne q (by simpa using hq0) (by simp; omega)
   rw [Go.Proofs.YtphnbmdcgcchaaaDoor.sts, e0, ← Go.Proofs.YtphnbmdcgcchaaaDoor.sts] at hs
   intro e
   rw [e] at hs
   cases hs
 have e2 : gsts (i ++ [b]) = gsts i ++ b.g.sts := by rw [gsts_append]; simp [gsts]
 rw [e2] at h1
 simp only [List.length_append, List.length_singleton] at h1
 omega
theorem BI.finish {s0 goal : Tri} {p9 gc0 : Nat} {wr : World} (h : BI W0 wS dom l0 k fb gn0 lst ys ys.length gn gc l w) (H : YS OKs dom succ l0 k lst ys) (I : SInv W0 OKs dom succ s0 goal p9 fb gn0 gc0 k l0 wr) (hk : k < l0.length) (hg : goal ∉ ys)
  (kS : Keeps [] W0 wS) (hws : wr.heap.size ≤ wS.heap.size) (h9 : wS.cell? ⟨p9, 0, none⟩ = some (.map (some fb))) : SInv W0 OKs dom succ s0 goal p9 fb gn gc (k + 1) l w := by
 have hap := I.ap
 have hW := I.kp.size
 have hlt9 : p9 < wr.heap.size := World.block_lt_of_cell? _ _ I.fnd.c9
 obtain ⟨_, hmF, _⟩ := I.fnd.map
 have hltf : fb < wr.heap.size := hmF.lt
 simp only [List.nodup_cons, List.mem_cons, not_or] at hap
 obtain ⟨⟨a1, a2, a3⟩, ⟨a4, a5⟩, a6, a7⟩ := hap
 have hlen := h.mid.len
 simp only [List.length_map] at hlen
 have hge : ∀ x ∈ gn0 :: gblocks l0, W0.heap.size ≤ x := fun x hx => I.grp.ge x (by simpa using hx)
 have hno : ∀ x, x < wr.heap.size → x ∉ gn0 :: gblocks l0 → x ∉ gn :: gblocks l := fun x hx hn hm => by
  rcases h.frs x hm with e | e
  ·exact hn e
  ·omega
 have h9n : p9 ∉ gn :: gblocks l := hno p9 hlt9 (by simp [a2, a3])
 have hfn : fb ∉ gn :: gblocks l := hno fb hltf (by simp [a4, a5])
 have hgd := h.grp.nd
 simp only [Option.toList_some, List.singleton_append] at hgd
 refine ⟨by omega, h.grp, h.mid.done I.bfs (by simpa using hk) (fun x hx => ?_) (fun p hp c u hs => ?_), ⟨h.kp.cell h9 (by simp [a1, a2, a3]), (h.mp.congr fun t => by rw [h.mem t]).to⟩, h.nd, fun t ht => ?_, fun hm => ?_, fun b hb => ?_, kS.after h.kp (fun x hx => ?_), ?_, I.ge⟩
 ·obtain ⟨t, ht, rfl⟩ := List.mem_map.1 hx
  exact H.suc t (by simpa using List.mem_of_mem_take ht)
 ·rcases H.all p hp c u hs with e | e
  ·obtain ⟨b, hb, hu⟩ := mem_gsts.1 e
   obtain ⟨q, hq, rfl⟩ := List.mem_iff_getElem.1 hb
   exact .inl ⟨q, by simpa using hq, by rw [sts_map hq]; exact hu⟩
  ·exact .inr ⟨(u, lst u), List.mem_map.2 ⟨u, by simpa using e, rfl⟩, rfl, H.least u e p hp c hs⟩
 ·rcases (h.mem t).1 ht with e | e
  ·exact I.ok t e
  ·exact (H.ok t (List.mem_of_mem_take e)).1
 ·rcases (h.mem goal).1 hm with e | e
  ·exact I.ng e
  ·exact hg (List.mem_of_mem_take e)
 ·exact h.ne I.ne b hb
 ·simp only [List.mem_cons] at hx
  rcases hx with rfl | hx
  ·exact .inr I.ge.2
  ·exact .inr (hge x (by simpa using hx))
 ·rw [List.nodup_cons, List.nodup_cons]
  refine ⟨?_, hfn, hgd⟩
  simp only [List.mem_cons, not_or] at h9n ⊢
  exact ⟨a1, h9n.1, h9n.2⟩
end
end Go.Proofs.YtphnbmdcgcchaaaDoor
