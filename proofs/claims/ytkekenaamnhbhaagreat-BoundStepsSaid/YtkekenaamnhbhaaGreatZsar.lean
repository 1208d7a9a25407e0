/- Part 18 of the proof. No condition: every lemma says its own. -/
import Derived.Test.YtkekenaamnhbhaaGreatZsaq
namespace Go.Proofs.YtkekenaamnhbhaaGreat
open Go.RowKit Go.Sort Go.BigFrame
open Go.RowKit Go.Sort Go.BigFrame Classical
set_option maxRecDepth 100000
set_option maxHeartbeats 16000000
def WordPost (w : World) (succ : Tri → Int → Tri → Prop) (s0 goal : Tri) (cls : List Cl) (e : Ending) (w' : World) : Prop :=
 Keeps [] w w' ∧ ∃ word a c ok, e = .returned (.tuple #[sv a word.length c, .bool ok, .int .i64 0]) ∧ SliceAt w' 3 1 a word.length c ((word.map (loOf cls)).map (Value.int .i64)) ∧ (∀ g, a = some g → w.heap.size ≤ g) ∧
  ((ok = true ∧ Least succ s0 word goal ∧ word.length ≤ 1000000) ∨ (ok = false ∧ word = [] ∧ ∀ v, ¬ Lead succ s0 v goal))
def DoublePost (w : World) (x : Gr) (node : Int) (e : Ending) (w' : World) : Prop :=
 if gvalE x ≠ 0 then e = .returned (.tuple #[.slice none 0 0, .bool false, .int .i64 (gvalE x)]) ∧ Keeps [] w w'
 else if node < 0 ∨ x.nodes.length ≤ node then e = .returned (.tuple #[.slice none 0 0, .bool false, .int .i64 5]) ∧ Keeps [] w w'
 else ∃ rows, WRows (Ere x.edges) x.nodes.length rows ∧ WordPost w (DSucc x.edges (partN rows node.toNat)) (node, node, 0) (node, node, 1) x.cls e w'
theorem lead_cls {x : Gr} (ok : GrOK x) {part : Nat} {s t : Tri} {w : List Int} (h : Lead (DSucc x.edges part) s w t) : ∀ c ∈ w, 0 ≤ c ∧ c < x.cls.length := by
 induction h with
 | nil => intro c hc; cases hc
 | snoc _ hs ih =>
  intro c hc
  rcases List.mem_append.1 hc with hc | hc
  ·exact ih c hc
  ·simp at hc
   subst hc
   obtain ⟨e, he, f, _, _, _, h3, _⟩ := hs
   rw [← h3]
   exact (ok.ed e he).2.2.1
theorem Double_any (S : SearchOK) (x : Gr) (node : Int) (w : World) (hx : GrIn w x) :
  Calls Tryz.prog 42 #[x.val, .int .i64 node] w (DoublePost w x node) := by
 obtain ⟨Q, hQ⟩ : ∃ Q, Q = DoublePost w x node := ⟨_, rfl⟩
 rw [← hQ]
 have HQ := gI hQ
 obtain ⟨B, hB⟩ : ∃ B, B = w.heap.size := ⟨_, rfl⟩
 obtain ⟨Y, hY⟩ : ∃ Y, Y = w.alloc (.cells x.row.toArray 89) := ⟨_, rfl⟩
 have hkY : Keeps [] w Y := by rw [hY]; exact Keeps.a1 _ _
 have hb : Y.heap[B]? = some (.cells x.row.toArray 89 (0, 0)) := by rw [hY, hB]; exact heap_alloc_new w _
 obtain ⟨b0, b1, b2, b3⟩ := row_cells4 hb
 have HX := gI (hx.keep hkY)
 have HY := gI (show w.alloc (.cells #[.slice x.ca x.cls.length x.cc, .slice x.na x.nodes.length x.nc, .slice x.fa x.first.length x.fc, .slice x.ea x.edges.length x.ec] 89) = Y by rw [hY]; rfl)
 have HB := gI hB
 have HKY := gI hkY
 have HV := gI (gvalid_any x Y (hx.keep hkY))
 have HS := gI S
 have hln := hx.ln
 simp only [Gr.val] at HV ⊢
 clear hQ hB hY hkY hb hx S
 obtain ⟨gv, hgv⟩ : ∃ gv, gv = gvalE x := ⟨_, rfl⟩
 rw [← hgv] at HV
 have HGV := gI hgv
 clear hgv
 go_enter Tryz.func42, Tryz.ntmps42
 go_upto_region 1 with fail
 rw [HY.out, ← HB.out]
 go_wp2_with fail
 refine HV.out.mono ?_
 rintro e w2 ⟨rfl, hk2⟩
 have c0 := hk2.cell b0 (by simp)
 have c1 := hk2.cell b1 (by simp)
 have c2 := hk2.cell b2 (by simp)
 have c3 := hk2.cell b3 (by simp)
 have HK2 := gI (HKY.out.trans hk2)
 have HX2 := gI (HX.out.keep hk2)
 clear b0 b1 b2 b3 hk2
 by_cases hg : gv = 0
 ·subst hg
  have HOK := gI (gval_ok HGV.out.symm)
  by_cases hn : node < 0 ∨ (x.nodes.length : Int) ≤ node
  ·have HF := gI (show Q = fun e w' => e = .returned (.tuple #[.slice none 0 0, .bool false, .int .i64 5]) ∧ Keeps [] w w' by
    rw [HQ.out]; funext e w'; simp only [DoublePost]; rw [if_neg (by rw [← HGV.out]; simp), if_pos hn])
   rcases hn with hn | hn
   ·go_wp2
    go_ret3
    rw [HF.out]
    exact ⟨rfl, HK2.out⟩
   ·have hn0 : ¬ node < 0 := by omega
    go_wp2
    go_ret3
    rw [HF.out]
    exact ⟨rfl, HK2.out⟩
  ·have HF := gI (show Q = fun e w' => ∃ rows, WRows (Ere x.edges) x.nodes.length rows ∧ WordPost w (DSucc x.edges (partN rows node.toNat)) (node, node, 0) (node, node, 1) x.cls e w' by
    rw [HQ.out]; funext e w'; simp only [DoublePost]; rw [if_neg (by rw [← HGV.out]; simp), if_neg hn])
   have hn0 : ¬ node < 0 := by omega
   have hn1 : ¬ (x.nodes.length : Int) ≤ node := by omega
   have HNW := gI (newWays_any x w2 HX2.out HOK.out)
   simp only [Gr.val] at HNW
   go_wp2_with fail
   refine HNW.out.mono ?_
   rintro e w3 ⟨wb, rows, rfl, hw3, hrows, hlt, hk3⟩
   have hsl := hrows.1
   have HW3 := gI hw3
   have HROWS := gI hrows
   have HSL := gI hsl
   have hnn : node = ((node.toNat : Nat) : Int) := by omega
   obtain ⟨n, hne⟩ : ∃ n, n = node.toNat := ⟨_, rfl⟩
   rw [← hne] at hnn HF
   subst hnn
   have HD := gI (double_any HS.out wb x rows n w3 hw3 HOK.out hsl (fun m hm => hlt m (by omega)) (by omega))
   have HK3 := gI (HK2.out.trans hk3)
   clear hw3 hrows hlt hk3 hsl hne
   go_wp2_with fail
   refine HD.out.mono ?_
   rintro e w4 ⟨hk4, h4⟩
   have HW4 := gI (HW3.out.keep hk4)
   have HK4 := gI (HK3.out.trans hk4)
   clear hk4
   rcases h4 with ⟨a, c, word, rfl, hsl4, hleast, hwl, hga⟩ | ⟨rfl, hno⟩
   ·have HWD := gI (word_any wb x rows (a.map fun g => ⟨g, 0, none⟩) c word w4 HW4.out HOK.out hsl4.to_in (lead_cls HOK.out hleast.1) (by omega))
    have HL := gI hleast
    have HWL := gI hwl
    clear hsl4 hleast hwl hga
    simp only [sv]
    go_wp2_with fail
    refine HWD.out.mono ?_
    rintro e w5 ⟨a5, c5, rfl, hs5, hk5, hg5⟩
    have HS5 := gI hs5
    have HK5 := gI (HK4.out.trans hk5)
    have HG5 := gI (show ∀ g, a5 = some g → w.heap.size ≤ g from fun g h => Nat.le_trans HK4.out.size (hg5 g h))
    clear hs5 hk5 hg5
    go_wp2
    go_ret3
    rw [HF.out]
    exact ⟨rows, HROWS.out, HK5.out, word, a5, c5, true, rfl, HS5.out, HG5.out, .inl ⟨rfl, HL.out, HWL.out⟩⟩
   ·have HWD := gI (word_any wb x rows none 0 [] w4 HW4.out HOK.out (fun h => by simp at h) (by simp) (by simp))
    have HNO := gI hno
    clear hno
    go_wp2_with fail
    refine HWD.out.mono ?_
    rintro e w5 ⟨a5, c5, rfl, hs5, hk5, hg5⟩
    have HS5 := gI hs5
    have HK5 := gI (HK4.out.trans hk5)
    have HG5 := gI (show ∀ g, a5 = some g → w.heap.size ≤ g from fun g h => Nat.le_trans HK4.out.size (hg5 g h))
    clear hs5 hk5 hg5
    go_wp2
    go_ret3
    rw [HF.out]
    exact ⟨rows, HROWS.out, HK5.out, [], a5, c5, false, rfl, HS5.out, HG5.out, .inr ⟨rfl, rfl, HNO.out⟩⟩
 ·have HF := gI (show Q = fun e w' => e = .returned (.tuple #[.slice none 0 0, .bool false, .int .i64 gv]) ∧ Keeps [] w w' by
   rw [HQ.out]; funext e w'; simp only [DoublePost]; rw [if_pos (by rw [← HGV.out]; exact hg), ← HGV.out])
  have hg' : (gv != 0) = true := by simp [hg]
  go_wp2
  go_ret3
  rw [HF.out]
  exact ⟨rfl, HK2.out⟩
section
theorem infoGr : (Tryz.prog.info? 189).map (fun i => (i.zero, i.size, i.bytes)) = some (some (.agg #[.slice none 0 0, .int .i64 0, .int .i64 0]), 3, 40) := by kernel_rfl
structure GB where
 g : Grp Tri
 a : Option Nat
 c : Nat
def GB.cells (b : GB) : List Value := [sv b.a b.g.sts.length b.c, .int .i64 b.g.bef, .int .i64 b.g.cls]
def flatG : List GB → List Value
 | [] => []
 | b :: r => b.cells ++ flatG r
theorem flatG_length : ∀ l : List GB, (flatG l).length = l.length * 3
 | [] => rfl
 | b :: r => by
  have := flatG_length r
  simp only [flatG, GB.cells, List.length_append, List.length_cons, List.length_nil]
  omega
theorem flatG_append : ∀ l r : List GB, flatG (l ++ r) = flatG l ++ flatG r
 | [], _ => rfl
 | b :: l, r => by rw [List.cons_append, flatG, flatG, flatG_append l r, List.append_assoc]
theorem flatG_get : ∀ (l : List GB) (i : Nat) (h : i < l.length), (flatG l)[i * 3]? = some (sv l[i].a l[i].g.sts.length l[i].c) ∧ (flatG l)[i * 3 + 1]? = some (.int .i64 l[i].g.bef) ∧ (flatG l)[i * 3 + 2]? = some (.int .i64 l[i].g.cls)
 | b :: r, 0, _ => ⟨rfl, rfl, rfl⟩
 | b :: r, i + 1, h => by
  have ih := flatG_get r i (by simpa using h)
  rw [Nat.succ_mul]
  exact ih
def gblocks (l : List GB) : List Nat := l.flatMap fun b => b.a.toList
structure GrpAt (N0 : Nat) (w : World) (ga : Option Nat) (gc : Nat) (l : List GB) : Prop where
 row : SliceAt w 189 3 ga l.length gc (flatG l)
 sts : ∀ b ∈ l, SliceAt w 175 3 b.a b.g.sts.length b.c (triF b.g.sts)
 nd : (ga.toList ++ gblocks l).Nodup
 ge : ∀ x ∈ ga.toList ++ gblocks l, N0 ≤ x
theorem mem_gblocks {l : List GB} {x : Nat} : x ∈ gblocks l ↔ ∃ b ∈ l, b.a = some x := by
 simp [gblocks, List.mem_flatMap]
variable {N0 gc : Nat} {w w' : World} {ga : Option Nat} {l : List GB}
theorem GrpAt.keep (h : GrpAt N0 w ga gc l) {S : List Nat} (k : Keeps S w w') (hS : ∀ x ∈ S, x ∉ ga.toList ++ gblocks l) : GrpAt N0 w' ga gc l :=
 ⟨h.row.keep k fun g hg hs => hS g hs (by simp [hg]), fun b hb => (h.sts b hb).keep k fun g hg hs => hS g hs (List.mem_append.2 (.inr (mem_gblocks.2 ⟨b, hb, hg⟩))), h.nd, h.ge⟩
theorem GrpAt.lt (h : GrpAt N0 w ga gc l) : ∀ x ∈ ga.toList ++ gblocks l, x < w.heap.size := by
 intro x hx
 rcases List.mem_append.1 hx with hx | hx
 ·have hr := h.row
  rw [show ga = some x by simpa using hx] at hr
  exact hr.lt
 ·obtain ⟨b, hb, he⟩ := mem_gblocks.1 hx
  have hs := h.sts b hb
  rw [he] at hs
  exact hs.lt
theorem gblocks_append (l r : List GB) : gblocks (l ++ r) = gblocks l ++ gblocks r := by simp [gblocks]
theorem GrpAt.push (h : GrpAt N0 w ga gc l) {b : GB} (hb : b.g.sts = []) (ha : b.a = none) (hc : b.c = 0) {g c' : Nat} (hs : SliceAt w' 189 3 (some g) (l.length + 1) c' (flatG l ++ b.cells)) (k : Keeps ga.toList w w') (hg : ga = some g ∨ w.heap.size ≤ g) (hN : N0 ≤ w.heap.size) :
  GrpAt N0 w' (some g) c' (l ++ [b]) := by
 have hnd := h.nd
 rw [List.nodup_append] at hnd
 obtain ⟨n1, n2, n3⟩ := hnd
 have hgb : gblocks (l ++ [b]) = gblocks l := by rw [gblocks_append]; simp [gblocks, ha]
 refine ⟨by rw [List.length_append, List.length_singleton, flatG_append]; simpa [flatG] using hs, fun x hx => ?_, ?_, fun x hx => ?_⟩
 ·rcases List.mem_append.1 hx with hx | hx
  ·refine (h.sts x hx).keep k fun q hq hm => ?_
   exact n3 q hm q (mem_gblocks.2 ⟨x, hx, hq⟩) rfl
  ·simp at hx
   subst hx
   rw [hb, ha, hc]
   exact SliceAt.nil _ _ _
 ·rw [hgb, List.nodup_append]
  refine ⟨by simp, n2, fun x hx y hy => ?_⟩
  simp at hx
  subst hx
  rintro rfl
  rcases hg with hg | hg
  ·exact n3 x (by simp [hg]) x hy rfl
  ·have := h.lt x (List.mem_append.2 (.inr hy)); omega
 ·rw [hgb] at hx
  rcases List.mem_append.1 hx with hx | hx
  ·simp at hx
   subst hx
   rcases hg with hg | hg
   ·exact h.ge x (by simp [hg])
   ·omega
  ·exact h.ge x (List.mem_append.2 (.inr hx))
theorem SliceAt.setQ {w : World} {e size g n c : Nat} {xs : List Value} (h : SliceAt w e size (some g) n c xs) (i : Nat) (v : Value) : SliceAt (w.setCell ⟨g, i, none⟩ v) e size (some g) n c (xs.set i v) := by
 obtain ⟨h1, cur, h2, h3, h4, h5, h6⟩ := h
 refine ⟨by simpa using h1, _, heap_setCell_same w g i _ e v h2, h3, h4, by simpa using h5, ?_⟩
 subst h6
 simp [List.take_set]
theorem flatG_setLast (l : List GB) (b b' : GB) (hb : b'.g.bef = b.g.bef) (hc : b'.g.cls = b.g.cls) : (flatG (l ++ [b])).set (l.length * 3) (sv b'.a b'.g.sts.length b'.c) = flatG (l ++ [b']) := by
 rw [flatG_append, flatG_append, ← flatG_length, List.set_append_right _ _ (by omega), Nat.sub_self]
 simp [flatG, GB.cells, hb, hc]
theorem GrpAt.addLast {w1 : World} {g : Nat} {b : GB} (h : GrpAt N0 w (some g) gc (l ++ [b])) (t : Tri) {s c' : Nat} (hs : SliceAt w1 175 3 (some s) (b.g.sts.length + 1) c' (triF b.g.sts ++ triL t)) (k : Keeps b.a.toList w w1) (hsb : b.a = some s ∨ w.heap.size ≤ s) (hN : N0 ≤ w.heap.size) :
  GrpAt N0 (w1.setCell ⟨g, l.length * 3, none⟩ (sv (some s) (b.g.sts.length + 1) c')) (some g) gc (l ++ [⟨{ b.g with sts := b.g.sts ++ [t] }, some s, c'⟩]) := by
 have hlt := h.lt
 have hnd := h.nd
 rw [gblocks_append, List.nodup_append] at hnd
 obtain ⟨n1, n2, n3⟩ := hnd
 rw [List.nodup_append] at n2
 obtain ⟨m1, m2, m3⟩ := n2
 have hbg : gblocks [b] = b.a.toList := by simp [gblocks]
 have hgs : g ≠ s := fun e => by
  subst e
  rcases hsb with hsb | hsb
  ·exact n3 g (by simp) g (List.mem_append.2 (.inr (by rw [hbg]; simp [hsb]))) rfl
  ·have := hlt g (by simp); omega
 have hsl : s ∉ gblocks l := fun hm => by
  rcases hsb with hsb | hsb
  ·exact m3 s hm s (by rw [hbg]; simp [hsb]) rfl
  ·have := hlt s (by rw [gblocks_append]; simp [hm]); omega
 have hgb : ∀ x, x ∈ b.a.toList → x ≠ g := fun x hx e => n3 g (by simp) x (List.mem_append.2 (.inr (by rw [hbg]; exact hx))) e.symm
 have kg : Keeps [g] w1 (w1.setCell ⟨g, l.length * 3, none⟩ (sv (some s) (b.g.sts.length + 1) c')) := (Keeps.refl [g] w1).setCell (by simp) _
 have hrow := (h.row.keep k (fun q hq hm => by simp at hq; subst hq; exact hgb _ hm rfl)).setQ (l.length * 3) (sv (some s) (b.g.sts.length + 1) c')
 refine ⟨?_, fun x hx => ?_, ?_, fun x hx => ?_⟩
 ·have e := flatG_setLast l b ⟨{ b.g with sts := b.g.sts ++ [t] }, some s, c'⟩ rfl rfl
  simp only [List.length_append, List.length_singleton] at e hrow ⊢
  rw [e] at hrow
  exact hrow
 ·rcases List.mem_append.1 hx with hx | hx
  ·refine ((h.sts x (by simp [hx])).keep k fun q hq hm => ?_).keep kg fun q hq hm => ?_
   ·exact m3 q (mem_gblocks.2 ⟨x, hx, hq⟩) q (by rw [hbg]; exact hm) rfl
   ·simp at hm
    subst hm
    exact n3 q (by simp) q (List.mem_append.2 (.inl (mem_gblocks.2 ⟨x, hx, hq⟩))) rfl
  ·simp only [List.mem_singleton] at hx
   subst hx
   simp only [List.length_append, List.length_singleton, triF_append]
   have h5 := hs.keep kg (fun q hq => by simp at hq; subst hq; simp; exact Ne.symm hgs)
   simpa [triF] using h5
 ·have e : gblocks (l ++ [⟨{ b.g with sts := b.g.sts ++ [t] }, some s, c'⟩]) = gblocks l ++ [s] := by rw [gblocks_append]; simp [gblocks]
  rw [e, List.nodup_append]
  refine ⟨by simp, ?_, fun x hx y hy => ?_⟩
  ·rw [List.nodup_append]
   refine ⟨m1, by simp, fun x hx y hy => ?_⟩
   simp at hy
   subst hy
   rintro rfl
   exact hsl hx
  ·simp at hx
   subst hx
   rintro rfl
   rcases List.mem_append.1 hy with hy | hy
   ·exact n3 x (by simp) x (List.mem_append.2 (.inl hy)) rfl
   ·simp at hy
    exact hgs hy
 ·have e : gblocks (l ++ [⟨{ b.g with sts := b.g.sts ++ [t] }, some s, c'⟩]) = gblocks l ++ [s] := by rw [gblocks_append]; simp [gblocks]
  rw [e] at hx
  rcases List.mem_append.1 hx with hx | hx
  ·exact h.ge x (List.mem_append.2 (.inl hx))
  ·rcases List.mem_append.1 hx with hx | hx
   ·exact h.ge x (by rw [gblocks_append]; simp [hx])
   ·simp at hx
    subst hx
    rcases hsb with hsb | hsb
    ·exact h.ge x (by rw [gblocks_append, hbg]; simp [hsb])
    ·omega
end
def gsts (l : List GB) : List Tri := l.flatMap fun b => b.g.sts
theorem mem_gsts {l : List GB} {t : Tri} : t ∈ gsts l ↔ ∃ b ∈ l, t ∈ b.g.sts := by simp [gsts, List.mem_flatMap]
structure FoundAt (dom : List Tri) (w : World) (p9 fb : Nat) (l : List GB) : Prop where
 c9 : w.cell? ⟨p9, 0, none⟩ = some (.map (some fb))
 map : ∃ gF, MapAt w Tryz.prog 175 fb dom.length gF ∧ (∀ t, TOK t → gF (triv t) = if t ∈ gsts l then some (.bool true) else none) ∧ ∀ v, IsKey Tryz.prog 175 v → gF v ≠ none → v ∈ dom.map triv
structure SInv (W0 : World) (OKs : Tri → Prop) (dom : List Tri) (succ : Tri → Int → Tri → Prop) (s0 goal : Tri) (p9 fb gn gc i : Nat) (l : List GB) (w : World) : Prop where
 le : i ≤ l.length
 grp : GrpAt W0.heap.size w (some gn) gc l
 bfs : Bfs succ s0 (l.map GB.g) i
 fnd : FoundAt dom w p9 fb l
 nd : (gsts l).Nodup
 ok : ∀ t ∈ gsts l, OKs t
 ng : goal ∉ gsts l
 ne : ∀ b ∈ l, b.g.sts ≠ []
 kp : Keeps [] W0 w
 ap : (p9 :: fb :: gn :: gblocks l).Nodup
 ge : W0.heap.size ≤ p9 ∧ W0.heap.size ≤ fb
theorem SInv.start {W0 w : World} {OKs : Tri → Prop} {dom : List Tri} {succ : Tri → Int → Tri → Prop} {s0 goal : Tri} {p9 fb gn st : Nat} {gF : Value → Option Value} (hok : OKs s0) (hdm : s0 ∈ dom) (hne : s0 ≠ goal) (kp : Keeps [] W0 w)
  (hg : w.heap[gn]? = some (.cells #[.slice (some ⟨st, 0, none⟩) 1 1, .int .i64 (-1), .int .i64 0] 189 (0, 0))) (hs : w.heap[st]? = some (.cells (triL s0).toArray 175 (0, 0)))
  (h9 : w.cell? ⟨p9, 0, none⟩ = some (.map (some fb))) (hm : MapAt w Tryz.prog 175 fb 1 gF) (hF : ∀ v, gF v = if v = triv s0 then some (.bool true) else none)
  (hap : (p9 :: fb :: gn :: [st]).Nodup) (hge : ∀ x ∈ p9 :: fb :: gn :: [st], W0.heap.size ≤ x) :
  SInv W0 OKs dom succ s0 goal p9 fb gn 1 0 [⟨⟨[s0], -1, 0, []⟩, some st, 1⟩] w := by
 have hlen : 1 ≤ dom.length := List.length_pos_of_mem hdm
 refine ⟨Nat.zero_le _, ⟨?_, fun b hb => ?_, ?_, fun x hx => ?_⟩, Bfs.start succ s0, ⟨h9, gF, hm.mono hlen, fun t _ => ?_, fun v _ hv => ?_⟩, by simp [gsts], fun t ht => ?_, ?_, by simp, kp, by simpa [gblocks] using hap, hge _ (by simp), hge _ (by simp)⟩
 ·have h := SliceAt.of_row (size := 3) (c := 1) hg (by simp) (by unfold maxLen; omega)
  simpa [flatG, GB.cells, sv] using h
 ·simp only [List.mem_singleton] at hb
  subst hb
  have h := SliceAt.of_row (size := 3) (c := 1) hs (by simp [triL]) (by unfold maxLen; omega)
  simpa [triF] using h
 ·simp [gblocks] at hap ⊢
  omega
 ·exact hge x (by simp [gblocks] at hx ⊢; omega)
 ·rw [hF]
  by_cases h : t = s0
  ·subst h; simp [gsts]
  ·rw [if_neg (fun e => h (triv_inj e)), if_neg (by simpa [gsts] using h)]
 ·rw [hF] at hv
  by_cases h : v = triv s0
  ·subst h; exact List.mem_map.2 ⟨s0, hdm, rfl⟩
  ·rw [if_neg h] at hv; exact absurd rfl hv
 ·simp [gsts] at ht
  subst ht
  exact hok
 ·simp [gsts]
  exact fun h => hne h.symm
theorem gsts_len : ∀ {l : List GB}, (∀ b ∈ l, b.g.sts ≠ []) → l.length ≤ (gsts l).length
 | [], _ => Nat.zero_le _
 | b :: r, h => by
  have h1 := gsts_len (l := r) fun x hx => h x (by simp [hx])
  have h2 := List.length_pos_iff.2 (h b (by simp))
  have e : gsts (b :: r) = b.g.sts ++ gsts r := by simp [gsts]
  rw [e, List.length_append, List.length_cons]
  omega
theorem SInv.len {W0 w : World} {OKs : Tri → Prop} {dom : List Tri} {succ : Tri → Int → Tri → Prop} {s0 goal : Tri} {p9 fb gn gc i : Nat} {l : List GB} (h : SInv W0 OKs dom succ s0 goal p9 fb gn gc i l w) (hd : ∀ t, OKs t → t ∈ dom) : l.length ≤ dom.length :=
 Nat.le_trans (gsts_len h.ne) (nodup_le h.nd fun t ht => hd t (h.ok t ht))
end Go.Proofs.YtkekenaamnhbhaaGreat
