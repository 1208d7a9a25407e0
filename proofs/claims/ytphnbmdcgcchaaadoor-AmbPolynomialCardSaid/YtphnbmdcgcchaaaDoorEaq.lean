/- Part 17 of the proof. No condition: every lemma says its own. -/
import Derived.Test.YtphnbmdcgcchaaaDoorEam
namespace Go.Proofs.YtphnbmdcgcchaaaDoor
open Go.RowKit Go.Sort Go.BigFrame Classical
set_option maxRecDepth 100000
set_option maxHeartbeats 16000000
def BOK (N : Nat) (s : Tri) : Prop := (0 ≤ s.1 ∧ s.1 < N) ∧ (0 ≤ s.2.1 ∧ s.2.1 < N) ∧ (0 ≤ s.2.2 ∧ s.2.2 < N)
def BSucc (es : List E4) (p0 p1 p2 : Nat) (s : Tri) (c : Int) (t : Tri) : Prop :=
 ∃ e ∈ es, ∃ f ∈ es, ∃ g ∈ es, e.fr = s.1 ∧ f.fr = s.2.1 ∧ g.fr = s.2.2 ∧ e.cl = c ∧ f.cl = c ∧ g.cl = c ∧ p0.testBit e.tt.toNat = true ∧ p1.testBit f.tt.toNat = true ∧ p2.testBit g.tt.toNat = true ∧ t = (e.tt, f.tt, g.tt)
def B3 (p2 : Nat) (e f g : E4) (t : Tri) : Prop := p2.testBit g.tt.toNat = true ∧ t = (e.tt, f.tt, g.tt)
def B2 (p1 p2 : Nat) (L3 : List E4) (e f : E4) (t : Tri) : Prop := p1.testBit f.tt.toNat = true ∧ ∃ g ∈ L3, B3 p2 e f g t
def B1 (p0 p1 p2 : Nat) (L2 L3 : List E4) (e : E4) (t : Tri) : Prop := p0.testBit e.tt.toNat = true ∧ ∃ f ∈ L2, B2 p1 p2 L3 e f t
theorem B1.iff {es : List E4} {p0 p1 p2 a b d : Nat} {c : Int} {t : Tri} : (∃ e ∈ sel es a c, B1 p0 p1 p2 (sel es b c) (sel es d c) e t) ↔ BSucc es p0 p1 p2 ((a : Int), (b : Int), (d : Int)) c t := by
 constructor
 ·rintro ⟨e, he, h0, f, hf, h1, g, hg, h2, h3⟩
  obtain ⟨e1, e2, e3⟩ := mem_sel.1 he
  obtain ⟨f1, f2, f3⟩ := mem_sel.1 hf
  obtain ⟨g1, g2, g3⟩ := mem_sel.1 hg
  exact ⟨e, e1, f, f1, g, g1, e2, f2, g2, e3, f3, g3, h0, h1, h2, h3⟩
 ·rintro ⟨e, e1, f, f1, g, g1, e2, f2, g2, e3, f3, g3, h0, h1, h2, h3⟩
  exact ⟨e, mem_sel.2 ⟨e1, e2, e3⟩, h0, f, mem_sel.2 ⟨f1, f2, f3⟩, h1, g, mem_sel.2 ⟨g1, g2, g3⟩, h2, h3⟩
structure NX (J : List (Int × Tri) → List Nat → World → Prop) (l0 : List (Int × Tri)) (U0 : List Nat) (r : Nat) (X : World) (mb n : Nat) (g : Value → Option Value) (left : Value → Bool) (cnt : Nat) (bs : List (Nat × Obj)) (l : List (Int × Tri)) (U : List Nat) (w : World) : Prop where
 j : J (l0 ++ l) U w
 kp : Keeps (r :: U0) X w
 us : ∀ y ∈ U, y ∈ U0 ∨ r < y
 rg : RangeAt w Tryd.prog 3 mb r n g left cnt
 bx : ∀ p ∈ bs, w.heap[p.1]? = some p.2 ∧ p.1 ∉ U
 nm : mb ∉ U0 ∧ mb < r ∧ r ∉ U0 ∧ r = X.heap.size
variable {W0 : World} {OKs : Tri → Prop} {ncl : Array Value} {J : List (Int × Tri) → List Nat → World → Prop} {l0 : List (Int × Tri)} {U0 : List Nat} {r : Nat} {X : World} {mb n : Nat} {g : Value → Option Value} {left : Value → Bool} {cnt : Nat} {bs : List (Nat × Obj)} {l l' : List (Int × Tri)} {U U' : List Nat} {w w' : World}
theorem NX.notin (h : NX J l0 U0 r X mb n g left cnt bs l U w) : mb ∉ U ∧ r ∉ U := by
 obtain ⟨h1, h2, h3, _⟩ := h.nm
 exact ⟨fun hm => by rcases h.us mb hm with e | e; exact h1 e; omega, fun hm => by rcases h.us r hm with e | e; exact h3 e; omega⟩
theorem NX.step (h : NX J l0 U0 r X mb n g left cnt bs l U w) (k : Keeps U w w') (hj : J (l0 ++ l') U' w') (hu : ∀ y ∈ U', y ∈ U ∨ w.heap.size ≤ y) : NX J l0 U0 r X mb n g left cnt bs l' U' w' := by
 have hr := h.rg.lt
 refine ⟨hj, h.kp.after k fun y hy => ?_, fun y hy => ?_, h.rg.keep k h.notin.1 h.notin.2, fun p hp => ⟨k.heap (h.bx p hp).1 (h.bx p hp).2, fun hm => ?_⟩, h.nm⟩
 ·rcases h.us y hy with e | e
  ·exact .inl (by simp [e])
  ·exact .inr (by have := h.nm.2.2.2; omega)
 ·rcases hu y hy with e | e
  ·exact h.us y e
  ·exact .inr (by omega)
 ·rcases hu p.1 hm with e | e
  ·exact (h.bx p hp).2 e
  ·have := lt_of_block (h.bx p hp).1; omega
theorem NX.keep (hJ : NameOK W0 OKs ncl J) (h : NX J l0 U0 r X mb n g left cnt bs l U w) (k : Keeps [] w w') : NX J l0 U0 r X mb n g left cnt bs l U w' :=
 h.step (k.mono (by simp)) (hJ.stab _ U w w' [] h.j k (by simp)) fun _ hy => .inl hy
theorem NX.box (hJ : NameOK W0 OKs ncl J) (h : NX J l0 U0 r X mb n g left cnt bs l U w) (cs : Array Value) (t : Nat) : NX J l0 U0 r X mb n g left cnt ((w.heap.size, .cells cs t (0, 0)) :: bs) l U (w.alloc (.cells cs t)) := by
 have h1 := h.keep hJ (Keeps.a1 w (.cells cs t))
 refine { h1 with bx := fun p hp => ?_ }
 rcases List.mem_cons.1 hp with rfl | hp
 ·exact ⟨heap_alloc_new w _, fun hm => by have := ((hJ.ge _ U w h.j).1 _ hm).2; simp at this⟩
 ·exact h1.bx p hp
theorem NX.less (h : NX J l0 U0 r X mb n g left cnt bs l U w) {bs' : List (Nat × Obj)} (hs : ∀ p ∈ bs', p ∈ bs) : NX J l0 U0 r X mb n g left cnt bs' l U w := { h with bx := fun p hp => h.bx p (hs p hp) }
theorem lvl_step {l l1 l' : List (Int × Tri)} {c : Int} {L : List E4} {p : Nat} (h : p < L.length) {P : E4 → Tri → Prop} {R : Tri → Prop} (h1 : ∀ c' t, (c', t) ∈ l1 ↔ (c', t) ∈ l ∨ (c' = c ∧ ∃ e ∈ L.take p, P e t)) (h2 : ∀ c' t, (c', t) ∈ l' ↔ (c', t) ∈ l1 ∨ (c' = c ∧ R t)) (hP : ∀ t, P L[p] t ↔ R t) :
  ∀ c' t, (c', t) ∈ l' ↔ (c', t) ∈ l ∨ (c' = c ∧ ∃ e ∈ L.take (p + 1), P e t) := by
 intro c' t
 rw [h2, h1, ← hP, List.take_succ_eq_append_getElem h]
 constructor
 ·rintro ((h | ⟨e, x, hx, hp⟩) | ⟨e, hp⟩)
  ·exact .inl h
  ·exact .inr ⟨e, x, List.mem_append_left _ hx, hp⟩
  ·exact .inr ⟨e, L[p], List.mem_append_right _ (List.mem_singleton.2 rfl), hp⟩
 ·rintro (h | ⟨e, x, hx, hp⟩)
  ·exact .inl (.inl h)
  ·rcases List.mem_append.1 hx with hx | hx
   ·exact .inl (.inr ⟨e, x, hx, hp⟩)
   ·simp at hx
    subst hx
    exact .inr ⟨e, hp⟩
theorem lvl_skip {l l1 : List (Int × Tri)} {c : Int} {L : List E4} {p : Nat} (h : p < L.length) {P : E4 → Tri → Prop} (h1 : ∀ c' t, (c', t) ∈ l1 ↔ (c', t) ∈ l ∨ (c' = c ∧ ∃ e ∈ L.take p, P e t)) (hP : ∀ t, ¬ P L[p] t) :
  ∀ c' t, (c', t) ∈ l1 ↔ (c', t) ∈ l ∨ (c' = c ∧ ∃ e ∈ L.take (p + 1), P e t) :=
 lvl_step (R := fun _ => False) h h1 (fun c' t => by simp) (fun t => ⟨fun e => hP t e, fun e => e.elim⟩)
set_option linter.unusedSimpArgs false in
theorem bridgeNext_ok (x : Gr) (rows : List Nat) (wb pw pp p0 p1 p2 : Nat) (W0 : World) (hw : WaysAt W0 wb x rows) (ok : GrOK x) (hpw : W0.cell? ⟨pw, 0, none⟩ = some (.pointer (some ⟨wb, 0, none⟩)))
  (hp0 : W0.cell? ⟨pp, 0, none⟩ = some (.int .u64 p0)) (hp1 : W0.cell? ⟨pp, 1, none⟩ = some (.int .u64 p1)) (hp2 : W0.cell? ⟨pp, 2, none⟩ = some (.int .u64 p2)) (h0l : p0 < 2 ^ 64) (h1l : p1 < 2 ^ 64) (h2l : p2 < 2 ^ 64) :
  NextOK W0 (BOK x.nodes.length) 53 #[.pointer (some ⟨pw, 0, none⟩), .pointer (some ⟨pp, 0, none⟩)] (BSucc x.edges p0 p1 p2) := by
 intro p9 p11 p12 J hJ s l0 U W hs hj
 obtain ⟨hge, hkp⟩ := hJ.ge l0 U W hj
 obtain ⟨a, b, d⟩ := s
 obtain ⟨⟨ha0, ha1⟩, ⟨hb0, hb1⟩, ⟨hd0, hd1⟩⟩ := hs
 simp only at ha0 ha1 hb0 hb1 hd0 hd1
 obtain ⟨a, rfl⟩ := Int.eq_ofNat_of_zero_le ha0
 obtain ⟨b, rfl⟩ := Int.eq_ofNat_of_zero_le hb0
 obtain ⟨d, rfl⟩ := Int.eq_ofNat_of_zero_le hd0
 have ha : a < x.nodes.length := by omega
 have hb : b < x.nodes.length := by omega
 have hd : d < x.nodes.length := by omega
 obtain ⟨ob, rb, hbx, hus, hmaps⟩ := hw.box
 have h4 := (way_cells hbx).2.2.2.2.1
 obtain ⟨mb, g, k, hm1, hm2, hm3, hm4⟩ := WaysAt.edges hmaps ha
 obtain ⟨mb2, g2, k2, hn1, hn2, hn3, hn4⟩ := WaysAt.edges hmaps hb
 obtain ⟨mb3, g3, k3, ho1, ho2, ho3, ho4⟩ := WaysAt.edges hmaps hd
 have ln := ok.ln
 have le := ok.le
 have HED := Lib.hid (show ∀ n c, ∀ e ∈ sel x.edges n c, (0 ≤ e.tt ∧ e.tt < x.nodes.length) from fun n c e he => (ok.ed e (mem_sel.1 he).1).2.1)
 have HCL := Lib.hid (show ∀ e ∈ x.edges, M64 e.cl from fun e he => M64.small (ok.ed e he).2.2.1.1 (by have := (ok.ed e he).2.2.1.2; have := hw.gr.lc; omega))
 obtain ⟨E, hE⟩ : ∃ E, E = x.edges := ⟨_, rfl⟩
 obtain ⟨N, hN⟩ : ∃ N, N = x.nodes.length := ⟨_, rfl⟩
 rw [← hN] at h4 ha hb hd ln hJ HED
 rw [← hE] at hm4 hn4 ho4 le HED HCL ⊢
 simp only [triv]
 obtain ⟨B, hB⟩ : ∃ B, B = W.heap.size := ⟨_, rfl⟩
 obtain ⟨X, hX⟩ : ∃ X, X = W.alloc (.cells #[.int .i64 a, .int .i64 b, .int .i64 d] 92) := ⟨_, rfl⟩
 have hkX : Keeps [] W X := by rw [hX]; exact Keeps.a1 _ _
 have hbX : X.heap[B]? = some (.cells #[.int .i64 a, .int .i64 b, .int .i64 d] 92 (0, 0)) := by rw [hX, hB]; exact heap_alloc_new W _
 have b0 : X.cell? ⟨B, 0, none⟩ = some (.int .i64 a) := by simp [World.cell?, hbX]
 have b1 : X.cell? ⟨B, 1, none⟩ = some (.int .i64 b) := by simp [World.cell?, hbX]
 have b2 : X.cell? ⟨B, 2, none⟩ = some (.int .i64 d) := by simp [World.cell?, hbX]
 have hk0 : Keeps [] W0 X := hkp.trans hkX
 have cw := hk0.cell hpw (by simp)
 have c4 := hk0.cell h4 (by simp)
 have ca := hk0.cell hm1 (by simp)
 have hma := hm2.keep hk0 (by simp)
 have hXs : X.heap.size = W.heap.size + 1 := by rw [hX]; simp
 have hUX : ∀ y ∈ U, y < B := fun y hy => by have := (hge y hy).2; omega
 have hW0X := hkp.size
 have HX := Lib.hid hX
 have HB := Lib.hid hB
 have HKX := Lib.hid hkX
 have HK0 := Lib.hid hk0
 have HJ := Lib.hid hJ
 have HJ0 := Lib.hid (show J l0 U X from hJ.stab l0 U W X [] hj hkX (by simp))
 have HPW := Lib.hid hpw
 have HP0 := Lib.hid hp0
 have HP1 := Lib.hid hp1
 have HP2 := Lib.hid hp2
 have H4 := Lib.hid h4
 have HM2 := Lib.hid hm2
 have HM4 := Lib.hid hm4
 have HN1 := Lib.hid hn1
 have HN2 := Lib.hid hn2
 have HN4 := Lib.hid hn4
 have HO1 := Lib.hid ho1
 have HO2 := Lib.hid ho2
 have HO4 := Lib.hid ho4
 have HXS := Lib.hid hXs
 have HUX := Lib.hid hUX
 have HGE := Lib.hid (fun y hy => (hge y hy).1)
 have HB0 := Lib.hid b0
 have HB1 := Lib.hid b1
 have HB2 := Lib.hid b2
 have HE := Lib.hid hE
 have HW0X := Lib.hid hW0X
 have H0L := Lib.hid h0l
 have H1L := Lib.hid h1l
 have H2L := Lib.hid h2l
 clear hw ok hJ hj hge hkp hbx hus hmaps hm1 hm2 hm4 hn1 hn2 hn4 ho1 ho2 ho4 hpw hp0 hp1 hp2 h4 hX hkX hbX hk0 hE hN hXs hUX hW0X hB ha0 ha1 hb0 hb1 hd0 hd1 h0l h1l h2l
 show Calls Tryd.prog 53 #[.agg #[.int .i64 a, .int .i64 b, .int .i64 d], .func (.func 58) #[] #[.pointer (some ⟨p9, 0, none⟩), .pointer (some ⟨p11, 0, none⟩), .pointer (some ⟨p12, 0, none⟩)], .pointer (some ⟨pw, 0, none⟩), .pointer (some ⟨pp, 0, none⟩)] W _
 go_enter Tryd.func53, Tryd.ntmps53
 go_upto_region 1 with fail
 rw [← HX.out, ← HB.out]
 refine wp_region_held_drew (S := fun w' => (w'.cell? ⟨pw, 0, none⟩ = some (.pointer (some ⟨wb, 0, none⟩)) ∧ w'.cell? ⟨B, 0, none⟩ = some (.int .i64 a)) ∧ w'.cell? ⟨wb, 4, none⟩ = some (.slice (some ⟨ob, 0, none⟩) N N) ∧ w'.cell? ⟨ob, a, none⟩ = some (.map (some mb))) (by kernel_rfl) ⟨⟨cw, b0⟩, c4, ca⟩ (fun hHeld => ?_)
 refine take_on (i := 0) (v := ?_) rfl (by kernel_rfl) (by kernel_rfl) (by kernel_rfl) (fun _ _ _ h => h) (by rfl) (by assumption) ?_ ?_
 rotate_left
 ·((intro w hSw; (try dsimp only at hSw); go_simp <;> with_reducible rfl); done)
 try simp only [Act.put, List.setIfInBounds_toArray, List.set_cons_zero, List.set_cons_succ]
 refine take_on (i := 1) (v := ?_) rfl (by kernel_rfl) (by kernel_rfl) (by kernel_rfl) (fun _ _ _ h => h) (by rfl) (by assumption) ?_ ?_
 rotate_left
 ·((intro w hSw; (try dsimp only at hSw); go_simp <;> with_reducible rfl); done)
 try simp only [Act.put, List.setIfInBounds_toArray, List.set_cons_zero, List.set_cons_succ]
 refine take_on (i := 2) (v := ?_) rfl (by kernel_rfl) (by kernel_rfl) (by kernel_rfl) (fun _ _ _ h => h) (by rfl) (by assumption) ?_ ?_
 rotate_left
 ·((intro w hSw; (try dsimp only at hSw); go_simp <;> with_reducible rfl); done)
 try simp only [Act.put, List.setIfInBounds_toArray, List.set_cons_zero, List.set_cons_succ]
 refine take_on (i := 3) (v := ?_) rfl (by kernel_rfl) (by kernel_rfl) (by kernel_rfl) (fun _ _ _ h => h) (by rfl) (by assumption) ?_ ?_
 rotate_left
 ·((intro w hSw; (try dsimp only at hSw); go_simp <;> with_reducible rfl); done)
 try simp only [Act.put, List.setIfInBounds_toArray, List.set_cons_zero, List.set_cons_succ]
 refine take_on (i := 4) (v := ?_) rfl (by kernel_rfl) (by kernel_rfl) (by kernel_rfl) (fun _ _ _ h => h) (by rfl) (by assumption) ?_ ?_
 rotate_left
 ·((intro w hSw; (try dsimp only at hSw); go_simp <;> with_reducible rfl); done)
 try simp only [Act.put, List.setIfInBounds_toArray, List.set_cons_zero, List.set_cons_succ]
 refine take_on (i := 5) (v := ?_) rfl (by kernel_rfl) (by kernel_rfl) (by kernel_rfl) (fun _ _ _ h => h) (by rfl) (by assumption) ?_ ?_
 rotate_left
 ·((intro w hSw; (try dsimp only at hSw); go_simp <;> with_reducible rfl); done)
 try simp only [Act.put, List.setIfInBounds_toArray, List.set_cons_zero, List.set_cons_succ]
 refine take_on (i := 6) (v := ?_) rfl (by kernel_rfl) (by kernel_rfl) (by kernel_rfl) (fun _ _ _ h => h) (by rfl) (by assumption) ?_ ?_
 rotate_left
 ·((intro w hSw; (try dsimp only at hSw); go_simp <;> with_reducible rfl); done)
 try simp only [Act.put, List.setIfInBounds_toArray, List.set_cons_zero, List.set_cons_succ]
 refine take_on (i := 7) (v := ?_) rfl (by kernel_rfl) (by kernel_rfl) (by kernel_rfl) (fun _ _ _ h => h) (by rfl) (by assumption) ?_ ?_
 rotate_left
 ·((intro w hSw; (try dsimp only at hSw); go_simp <;> with_reducible rfl); done)
 try simp only [Act.put, List.setIfInBounds_toArray, List.set_cons_zero, List.set_cons_succ]
 refine branch_one (i := 8) rfl (by kernel_rfl) (by rfl) (fun K hK => ?_)
 refine wp_range (.tmp 21) 80 rfl 3 24 intKeyed Tryd.underlying80 mb k g rfl (hma.keep ((Keeps.refl [] X).drew) (by simp)) ?_
 intro w1 cnt hr1 hk1 hs1
 have hkx1 : Keeps [] X w1 := ((Keeps.refl [] X).drew).trans hk1
 refine hK.out _ _ (⟨⟨hkx1.cell cw (by simp), hkx1.cell b0 (by simp)⟩, hkx1.cell c4 (by simp), hkx1.cell ca (by simp)⟩) (fun hHeld => ?_)
 clear hK K
 try simp only [Act.put, List.setIfInBounds_toArray, List.set_cons_zero, List.set_cons_succ]
 refine wpAnyH_done (by kernel_rfl) ?_ _
 obtain ⟨r, hr⟩ : ∃ r, r = X.heap.size := ⟨_, rfl⟩
 have hr2 : X.drew.heap.size = r := by rw [hr]; rfl
 rw [hr2] at hr1 hs1 ⊢
 have HR := Lib.hid hr
 have HNX0 := Lib.hid (show NX J l0 U r X mb k g (fun v => (g v).isSome) cnt [] [] U w1 from by
  refine ⟨by rw [List.append_nil]; exact HJ.out.stab l0 U X w1 [] HJ0.out hkx1 (by simp), hkx1.mono (by simp), fun y hy => .inl hy, hr1, by simp, ?_, ?_, ?_, hr⟩
  ·intro hm
   have h1 := HM2.out.lt
   have := HGE.out mb hm
   omega
  ·have h1 := HM2.out.lt
   have := HXS.out; have := HW0X.out
   omega
  ·intro hm
   have := HUX.out r hm; have := HXS.out; have := HB.out
   omega)
 clear hr hr2 hr1 hk1 hkx1 hs1 hHeld hma cw b0 b1 b2 c4 ca
 have HK0A := Lib.hid (show ∀ V : World, Keeps (r :: U) X V → Keeps [] W0 V from fun V hk => HK0.out.after hk (fun y hy => .inr (by
  rcases List.mem_cons.1 hy with e | e
  ·have := HR.out; have := HXS.out; have := HW0X.out; omega
  ·exact HGE.out y e)))
 have HBA := Lib.hid (show ∀ V : World, Keeps (r :: U) X V → (V.cell? ⟨B, 0, none⟩ = some (.int .i64 a) ∧ V.cell? ⟨B, 1, none⟩ = some (.int .i64 b) ∧ V.cell? ⟨B, 2, none⟩ = some (.int .i64 d)) from fun V hk => by
  have hn : B ∉ r :: U := fun hm => by
   rcases List.mem_cons.1 hm with e | e
   ·have := HR.out; have := HXS.out; have := HB.out; omega
   ·have := HUX.out B e; omega
  exact ⟨hk.cell HB0.out hn, hk.cell HB1.out hn, hk.cell HB2.out hn⟩)
 have HST := Lib.hid (show ∃ (left : Value → Bool) (cnt : Nat) (l : List (Int × Tri)) (U' : List Nat), NX J l0 U r X mb k g left cnt [] l U' w1 ∧ (∀ c t, (c, t) ∈ l ↔ BSucc E p0 p1 p2 ((a : Int), (b : Int), (d : Int)) c t ∧ left (.int .i64 c) = false) from
  ⟨_, cnt, [], U, HNX0.out, fun c t => by
   constructor
   ·intro h; cases h
   ·rintro ⟨⟨e, he, f, _, q, _, h1, _, _, h3, _⟩, h⟩
    exfalso
    have h5 := (HM4.out c).1.2 (fun hnil => by
     have : e ∈ sel E a c := mem_sel.2 ⟨he, h1, h3⟩
     rw [hnil] at this
     cases this)
    rw [h5] at h
    cases h⟩)
 go_wp2
 go_loopw [] (fun wr => ∃ (left : Value → Bool) (cnt : Nat) (l : List (Int × Tri)) (U' : List Nat), NX J l0 U r X mb k g left cnt [] l U' wr ∧ (∀ c t, (c, t) ∈ l ↔ BSucc E p0 p1 p2 ((a : Int), (b : Int), (d : Int)) c t ∧ left (.int .i64 c) = false)) (fun wr => wr.rangeLeft mb r)
 case atStart => exact HST.out
 case round =>
  obtain ⟨left, cnt', l, U', hnx, hl⟩ := hrel
  obtain ⟨wA, hwA⟩ : ∃ wA : World, wA = wr := ⟨_, rfl⟩
  subst hwA
  have HNX := Lib.hid hnx
  have HL := Lib.hid hl
  clear hnx hl HST HJ0 HNX0
  go_wp2_with (at_next; refine wpList_nextMap rfl _ rfl 3 intKeyed mb r k g left cnt' rfl HNX.out.rg ?hDone ?hMore)
  case hDone =>
   intro hd0
   have HD0 := Lib.hid hd0
   clear hd0
   go_wp2
   go_end0
   refine ⟨rfl, l, U', HNX.out.j, fun y hy => ?_, (HKX.out.mono (S' := U) (by simp)).after HNX.out.kp (fun y hy => ?_), fun c t => ?_⟩
   ·rcases HNX.out.us y hy with h | h
    ·exact .inl h
    ·exact .inr (by have := HR.out; have := HXS.out; omega)
   ·rcases List.mem_cons.1 hy with e | e
    ·exact .inr (by have := HR.out; have := HXS.out; omega)
    ·exact .inl e
   ·rw [HL.out c t]
    constructor
    ·exact fun h => h.1
    ·intro h
     refine ⟨h, HD0.out _ (keyI ?_)⟩
     obtain ⟨e, he, f, _, q, _, _, _, _, h3, _⟩ := h
     rw [← h3]
     exact HCL.out e he
  case hMore =>
   intro xv cv w2 cnt2 hkx hlx hgx hr2 hlt2 hk2 hsz2 hen
   obtain ⟨c, rfl, hcm⟩ := isKey_int hkx
   obtain ⟨hsel, ea, ec, hv, hed⟩ := HM4.out c
   rw [hgx] at hv
   simp only [Option.getD_some] at hv
   subst hv
   obtain ⟨_, fa2, fc2, hv2, hed2⟩ := HN4.out c
   obtain ⟨_, fa3, fc3, hv3, hed3⟩ := HO4.out c
   have hrge : W0.heap.size ≤ r := by have := HR.out; have := HXS.out; have := HW0X.out; omega
   obtain ⟨left2, hleft2⟩ : ∃ f, f = (fun z => left z && !decide (z = Value.int .i64 c)) := ⟨_, rfl⟩
   rw [← hleft2] at hr2
   have HNX2 := Lib.hid (show NX J l0 U r X mb k g left2 cnt2 [] l U' w2 from
    ⟨HJ.out.stab _ U' wA w2 [r] HNX.out.j hk2 (by intro y hy; simp at hy; subst hy; exact ⟨HNX.out.notin.2, hrge⟩), HNX.out.kp.trans (hk2.mono (by intro y hy; simp at hy; subst hy; exact .inl (by simp))), HNX.out.us, hr2, by simp, HNX.out.nm⟩)
   obtain ⟨L1, hL1⟩ : ∃ L1, L1 = sel E a c := ⟨_, rfl⟩
   obtain ⟨L2, hL2⟩ : ∃ L2, L2 = sel E b c := ⟨_, rfl⟩
   obtain ⟨L3, hL3⟩ : ∃ L3, L3 = sel E d c := ⟨_, rfl⟩
   have HE1 := Lib.hid (show ∀ e ∈ L1, (0 ≤ e.tt ∧ e.tt < N) from fun e he => HED.out a c e (hL1 ▸ he))
   have HE2 := Lib.hid (show ∀ e ∈ L2, (0 ≤ e.tt ∧ e.tt < N) from fun e he => HED.out b c e (hL2 ▸ he))
   have HE3 := Lib.hid (show ∀ e ∈ L3, (0 ≤ e.tt ∧ e.tt < N) from fun e he => HED.out d c e (hL3 ▸ he))
   have l1le : L1.length ≤ 65536 := by rw [hL1]; exact Nat.le_trans (sel_le _ _ _) le
   have l2le : L2.length ≤ 65536 := by rw [hL2]; exact Nat.le_trans (sel_le _ _ _) le
   have l3le : L3.length ≤ 65536 := by rw [hL3]; exact Nat.le_trans (sel_le _ _ _) le
   have HLK2 := Lib.hid (show ∀ V : World, Keeps (r :: U) X V → (Instr.lookup 80 (.map (some mb2)) (.int .i64 c) false).run Tryd.prog V = .ok (.slice fa2 L2.length fc2) V from fun V hk => by
    have h := (HN2.out.keep (HK0A.out V hk) (by simp)).look false intKeyed Tryd.underlying80 (z := .slice none 0 0) (by kernel_rfl) (keyI hcm)
    simp only [Bool.false_eq_true, if_false] at h
    rw [hv2, ← hL2] at h
    exact h)
   have HLK3 := Lib.hid (show ∀ V : World, Keeps (r :: U) X V → (Instr.lookup 80 (.map (some mb3)) (.int .i64 c) false).run Tryd.prog V = .ok (.slice fa3 L3.length fc3) V from fun V hk => by
    have h := (HO2.out.keep (HK0A.out V hk) (by simp)).look false intKeyed Tryd.underlying80 (z := .slice none 0 0) (by kernel_rfl) (keyI hcm)
    simp only [Bool.false_eq_true, if_false] at h
    rw [hv3, ← hL3] at h
    exact h)
   have HFIN := Lib.hid (show ∀ l' : List (Int × Tri), (∀ c' t, (c', t) ∈ l' ↔ (c', t) ∈ l ∨ (c' = c ∧ ∃ e ∈ L1, B1 p0 p1 p2 L2 L3 e t)) → ∀ c' t, (c', t) ∈ l' ↔ BSucc E p0 p1 p2 ((a : Int), (b : Int), (d : Int)) c' t ∧ left2 (.int .i64 c') = false from fun l' h' c' t => by
    rw [h' c' t, HL.out c' t, hleft2, hL1, hL2, hL3, B1.iff]
    by_cases e : c' = c
    ·subst e
     simp only [true_and, decide_true, Bool.not_true, Bool.and_false, and_true]
     constructor
     ·rintro (h | h)
      ·exact h.1
      ·exact h
     ·exact .inr
    ·have e2 : decide (Value.int .i64 c' = Value.int .i64 c) = false := by simpa using e
     simp only [e, false_and, or_false, e2, Bool.not_false, Bool.and_true])
   rw [← hL1] at hed hen ⊢
   rw [← hL2] at hed2
   rw [← hL3] at hed3
   have HEDA := Lib.hid hed
   have HEDB := Lib.hid hed2
   have HEDC := Lib.hid hed3
   have HLT2 := Lib.hid (show cnt2 < wA.rangeLeft mb r by rw [HNX.out.rg.left_eq]; exact hlt2)
   clear hsel hv2 hv3 hed hed2 hed3 hL1 hL2 hL3 hr2 hlt2 hk2 hlx hrge hgx hcm hkx hleft2
   go_wp2
   go_loopw [30] (fun v wr => ∃ (p : Nat) (l' : List (Int × Tri)) (U2 : List Nat), p ≤ L1.length ∧ v = .int .i64 p ∧ NX J l0 U r X mb k g left2 cnt2 [] l' U2 wr ∧ ∀ c' t, (c', t) ∈ l' ↔ (c', t) ∈ l ∨ (c' = c ∧ ∃ e ∈ L1.take p, B1 p0 p1 p2 L2 L3 e t)) (fun v _ => L1.length - (intOf v).toNat)
   case atStart => exact ⟨0, l, U', Nat.zero_le _, rfl, HNX2.out, fun c' t => by simp⟩
   case round =>
    obtain ⟨p, l1, U2, hp, rfl, hnx2, hl2⟩ := hrel
    obtain ⟨wB, hwB⟩ : ∃ wB : World, wB = wr := ⟨_, rfl⟩
    subst hwB
    have HNX3 := Lib.hid hnx2
    have HL2 := Lib.hid hl2
    clear hnx2 hl2
    by_cases hpl : p < L1.length
    ·skip
     have hk0a := HK0A.out wB HNX3.out.kp
     obtain ⟨bea, oea, rfl, hcea⟩ := (HEDA.out.keep hk0a) (by omega)
     obtain ⟨x0, x1, x2, x3⟩ := hcea p hpl
     have hte := HE1.out L1[p] (List.getElem_mem hpl)
     obtain ⟨ea, hea⟩ : ∃ e, e = L1[p] := ⟨_, rfl⟩
     rw [← hea] at x0 x1 x2 x3 hte
     obtain ⟨ef, et, ek, ew⟩ := ea
     simp only at x0 x1 x2 x3 hte
     obtain ⟨t1, rfl⟩ := Int.eq_ofNat_of_zero_le hte.1
     have HTa := Lib.hid hte
     have HEaa := Lib.hid hea
     obtain ⟨Ce, hCe⟩ : ∃ C, C = wB.heap.size := ⟨_, rfl⟩
     obtain ⟨Za, hZa⟩ : ∃ Z, Z = wB.alloc (.cells #[.int .i64 ef, .int .i64 t1, .int .i64 ek, .int .i64 ew] 48) := ⟨_, rfl⟩
     have HNZa := Lib.hid (show NX J l0 U r X mb k g left2 cnt2 [(Ce, (.cells #[.int .i64 ef, .int .i64 t1, .int .i64 ek, .int .i64 ew] 48 (0, 0)))] _ _ Za from by
      have h := HNX3.out.box HJ.out #[.int .i64 ef, .int .i64 t1, .int .i64 ek, .int .i64 ew] 48
      rw [← hZa, ← hCe] at h
      exact h)
     have e1 : Za.cell? ⟨Ce, 1, none⟩ = some (.int .i64 t1) := by
      have h := (HNZa.out.bx _ (List.mem_cons_self ..)).1
      simp [World.cell?, h]
     have cp := (HK0A.out Za HNZa.out.kp).cell HP0.out (by simp)
     have htl : t1 < 64 := by have := hte.2; omega
     have hh1 := Lib.hid (fun W => hasN_any p0 t1 W htl H0L.out)
     obtain ⟨tba, htba⟩ : ∃ tb, tb = p0.testBit t1 := ⟨_, rfl⟩
     simp only [← htba] at hh1
     have HZa := Lib.hid hZa
     have HCa := Lib.hid hCe
     have HTBa := Lib.hid htba
     clear hk0a hcea hte hea hZa hCe htl htba
     cases tba with
     | false =>
      go_upto_region 7 with fail
      rw [← HZa.out, ← HCa.out]
      clear x0 x1 x2 x3
      go_wp2_with (go_at_call 23; with_reducible refine (hh1.out _).mono ?_; rintro e w' ⟨rfl, rfl⟩)
      go_roundw
      case rel => exact ⟨p + 1, l1, U2, hpl, by go_num, HNZa.out.less (by simp), lvl_skip hpl HL2.out (fun t h => by have h1 := h.1; rw [← HEaa.out] at h1; rw [show ((t1 : Int)).toNat = t1 by omega, ← HTBa.out] at h1; cases h1)⟩
      case measure => simp [intOf]; omega
     | true =>
      have cw := (HK0A.out Za HNZa.out.kp).cell HPW.out (by simp)
      have c4 := (HK0A.out Za HNZa.out.kp).cell H4.out (by simp)
      have cb := (HK0A.out Za HNZa.out.kp).cell HN1.out (by simp)
      have bb := (HBA.out Za HNZa.out.kp).2.1
      have LQ : ∀ q, (Instr.lookup 80 (.map (some mb2)) (.int .i64 c) false).run Tryd.prog (Za.drewN q) = .ok (.slice fa2 L2.length fc2) (Za.drewN q) := fun q => HLK2.out (Za.drewN q) (HNZa.out.kp.drewN q)
      go_upto_region 7 with fail
      rw [← HZa.out, ← HCa.out]
      clear x0 x1 x2 x3
      go_upto_region 8 with (go_at_call 23; with_reducible refine (hh1.out _).mono ?_; rintro e w' ⟨rfl, rfl⟩)
      clear e1 cp
      go_quiet (fail)
      have HNVa := Lib.hid (HNZa.out.keep HJ.out ((Keeps.refl [] Za).drewN nq))
      clear cw c4 cb bb LQ
      generalize Za.drewN nq = Va at *
      go_wp2
      go_loopw [51] (fun v wr => ∃ (q : Nat) (l'' : List (Int × Tri)) (U3 : List Nat), q ≤ L2.length ∧ v = .int .i64 q ∧ NX J l0 U r X mb k g left2 cnt2 [(Ce, (.cells #[.int .i64 ef, .int .i64 t1, .int .i64 ek, .int .i64 ew] 48 (0, 0)))] l'' U3 wr ∧ ∀ c' t, (c', t) ∈ l'' ↔ (c', t) ∈ l1 ∨ (c' = c ∧ ∃ f ∈ L2.take q, B2 p1 p2 L3 ⟨ef, t1, ek, ew⟩ f t)) (fun v _ => L2.length - (intOf v).toNat)
      case atStart => exact ⟨0, l1, U2, Nat.zero_le _, rfl, HNVa.out, fun c' t => by simp⟩
      case round =>
       obtain ⟨q, l2, U3, hq, rfl, hnx4, hl3⟩ := hrel
       obtain ⟨wC, hwC⟩ : ∃ wC : World, wC = wr := ⟨_, rfl⟩
       subst hwC
       have HNX4 := Lib.hid hnx4
       have HL3 := Lib.hid hl3
       clear hnx4 hl3
       by_cases hql : q < L2.length
       ·skip
        have hk0b := HK0A.out wC HNX4.out.kp
        obtain ⟨beb, oeb, rfl, hceb⟩ := (HEDB.out.keep hk0b) (by omega)
        obtain ⟨x0, x1, x2, x3⟩ := hceb q hql
        have hte := HE2.out L2[q] (List.getElem_mem hql)
        obtain ⟨eb, heb⟩ : ∃ e, e = L2[q] := ⟨_, rfl⟩
        rw [← heb] at x0 x1 x2 x3 hte
        obtain ⟨ff, ft, fk, fw⟩ := eb
        simp only at x0 x1 x2 x3 hte
        obtain ⟨t2, rfl⟩ := Int.eq_ofNat_of_zero_le hte.1
        have HTb := Lib.hid hte
        have HEbb := Lib.hid heb
        obtain ⟨Cf, hCf⟩ : ∃ C, C = wC.heap.size := ⟨_, rfl⟩
        obtain ⟨Zb, hZb⟩ : ∃ Z, Z = wC.alloc (.cells #[.int .i64 ff, .int .i64 t2, .int .i64 fk, .int .i64 fw] 48) := ⟨_, rfl⟩
        have HNZb := Lib.hid (show NX J l0 U r X mb k g left2 cnt2 [(Cf, (.cells #[.int .i64 ff, .int .i64 t2, .int .i64 fk, .int .i64 fw] 48 (0, 0))), (Ce, (.cells #[.int .i64 ef, .int .i64 t1, .int .i64 ek, .int .i64 ew] 48 (0, 0)))] _ _ Zb from by
         have h := HNX4.out.box HJ.out #[.int .i64 ff, .int .i64 t2, .int .i64 fk, .int .i64 fw] 48
         rw [← hZb, ← hCf] at h
         exact h)
        have e1 : Zb.cell? ⟨Cf, 1, none⟩ = some (.int .i64 t2) := by
         have h := (HNZb.out.bx _ (List.mem_cons_self ..)).1
         simp [World.cell?, h]
        have cp := (HK0A.out Zb HNZb.out.kp).cell HP1.out (by simp)
        have htl : t2 < 64 := by have := hte.2; omega
        have hh2 := Lib.hid (fun W => hasN_any p1 t2 W htl H1L.out)
        obtain ⟨tbb, htbb⟩ : ∃ tb, tb = p1.testBit t2 := ⟨_, rfl⟩
        simp only [← htbb] at hh2
        have HZb := Lib.hid hZb
        have HCb := Lib.hid hCf
        have HTBb := Lib.hid htbb
        clear hk0b hceb hte heb hZb hCf htl htbb
        cases tbb with
        | false =>
         go_upto_region 11 with fail
         rw [← HZb.out, ← HCb.out]
         clear x0 x1 x2 x3
         go_wp2_with (go_at_call 23; with_reducible refine (hh2.out _).mono ?_; rintro e w' ⟨rfl, rfl⟩)
         go_roundw
         case rel => exact ⟨q + 1, l2, U3, hql, by go_num, HNZb.out.less (by simp), lvl_skip hql HL3.out (fun t h => by have h1 := h.1; rw [← HEbb.out] at h1; rw [show ((t2 : Int)).toNat = t2 by omega, ← HTBb.out] at h1; cases h1)⟩
         case measure => simp [intOf]; omega
        | true =>
         have cw := (HK0A.out Zb HNZb.out.kp).cell HPW.out (by simp)
         have c4 := (HK0A.out Zb HNZb.out.kp).cell H4.out (by simp)
         have cb := (HK0A.out Zb HNZb.out.kp).cell HO1.out (by simp)
         have bb := (HBA.out Zb HNZb.out.kp).2.2
         have LQ : ∀ q, (Instr.lookup 80 (.map (some mb3)) (.int .i64 c) false).run Tryd.prog (Zb.drewN q) = .ok (.slice fa3 L3.length fc3) (Zb.drewN q) := fun q => HLK3.out (Zb.drewN q) (HNZb.out.kp.drewN q)
         go_upto_region 11 with fail
         rw [← HZb.out, ← HCb.out]
         clear x0 x1 x2 x3
         go_upto_region 12 with (go_at_call 23; with_reducible refine (hh2.out _).mono ?_; rintro e w' ⟨rfl, rfl⟩)
         clear e1 cp
         go_quiet (fail)
         have HNVb := Lib.hid (HNZb.out.keep HJ.out ((Keeps.refl [] Zb).drewN nq))
         clear cw c4 cb bb LQ
         generalize Zb.drewN nq = Vb at *
         go_wp2
         go_loopw [72] (fun v wr => ∃ (s : Nat) (l'' : List (Int × Tri)) (U4 : List Nat), s ≤ L3.length ∧ v = .int .i64 s ∧ NX J l0 U r X mb k g left2 cnt2 [(Cf, (.cells #[.int .i64 ff, .int .i64 t2, .int .i64 fk, .int .i64 fw] 48 (0, 0))), (Ce, (.cells #[.int .i64 ef, .int .i64 t1, .int .i64 ek, .int .i64 ew] 48 (0, 0)))] l'' U4 wr ∧ ∀ c' t, (c', t) ∈ l'' ↔ (c', t) ∈ l2 ∨ (c' = c ∧ ∃ f ∈ L3.take s, B3 p2 ⟨ef, t1, ek, ew⟩ ⟨ff, t2, fk, fw⟩ f t)) (fun v _ => L3.length - (intOf v).toNat)
         case atStart => exact ⟨0, l2, U3, Nat.zero_le _, rfl, HNVb.out, fun c' t => by simp⟩
         case round =>
          obtain ⟨s, l3, U4, hs, rfl, hnx5, hl4⟩ := hrel
          obtain ⟨wD, hwD⟩ : ∃ wD : World, wD = wr := ⟨_, rfl⟩
          subst hwD
          have HNX5 := Lib.hid hnx5
          have HL4 := Lib.hid hl4
          clear hnx5 hl4
          by_cases hsl : s < L3.length
          ·skip
           have hk0c := HK0A.out wD HNX5.out.kp
           obtain ⟨bec, oec, rfl, hcec⟩ := (HEDC.out.keep hk0c) (by omega)
           obtain ⟨x0, x1, x2, x3⟩ := hcec s hsl
           have hte := HE3.out L3[s] (List.getElem_mem hsl)
           obtain ⟨ec, hec⟩ : ∃ e, e = L3[s] := ⟨_, rfl⟩
           rw [← hec] at x0 x1 x2 x3 hte
           obtain ⟨gf, gt, gk, gw⟩ := ec
           simp only at x0 x1 x2 x3 hte
           obtain ⟨t3, rfl⟩ := Int.eq_ofNat_of_zero_le hte.1
           have HTc := Lib.hid hte
           have HEcc := Lib.hid hec
           obtain ⟨Cg, hCg⟩ : ∃ C, C = wD.heap.size := ⟨_, rfl⟩
           obtain ⟨Zc, hZc⟩ : ∃ Z, Z = wD.alloc (.cells #[.int .i64 gf, .int .i64 t3, .int .i64 gk, .int .i64 gw] 48) := ⟨_, rfl⟩
           have HNZc := Lib.hid (show NX J l0 U r X mb k g left2 cnt2 [(Cg, (.cells #[.int .i64 gf, .int .i64 t3, .int .i64 gk, .int .i64 gw] 48 (0, 0))), (Cf, (.cells #[.int .i64 ff, .int .i64 t2, .int .i64 fk, .int .i64 fw] 48 (0, 0))), (Ce, (.cells #[.int .i64 ef, .int .i64 t1, .int .i64 ek, .int .i64 ew] 48 (0, 0)))] _ _ Zc from by
            have h := HNX5.out.box HJ.out #[.int .i64 gf, .int .i64 t3, .int .i64 gk, .int .i64 gw] 48
            rw [← hZc, ← hCg] at h
            exact h)
           have e1 : Zc.cell? ⟨Cg, 1, none⟩ = some (.int .i64 t3) := by
            have h := (HNZc.out.bx _ (List.mem_cons_self ..)).1
            simp [World.cell?, h]
           have cp := (HK0A.out Zc HNZc.out.kp).cell HP2.out (by simp)
           have htl : t3 < 64 := by have := hte.2; omega
           have hh3 := Lib.hid (fun W => hasN_any p2 t3 W htl H2L.out)
           obtain ⟨tbc, htbc⟩ : ∃ tb, tb = p2.testBit t3 := ⟨_, rfl⟩
           simp only [← htbc] at hh3
           have HZc := Lib.hid hZc
           have HCc := Lib.hid hCg
           have HTBc := Lib.hid htbc
           clear hk0c hcec hte hec hZc hCg htl htbc
           cases tbc with
           | false =>
            go_upto_region 15 with fail
            rw [← HZc.out, ← HCc.out]
            clear x0 x1 x2 x3
            go_wp2_with (go_at_call 23; with_reducible refine (hh3.out _).mono ?_; rintro e w' ⟨rfl, rfl⟩)
            go_roundw
            case rel => exact ⟨s + 1, l3, U4, hsl, by go_num, HNZc.out.less (by simp), lvl_skip hsl HL4.out (fun t h => by have h1 := h.1; rw [← HEcc.out] at h1; rw [show ((t3 : Int)).toNat = t3 by omega, ← HTBc.out] at h1; cases h1)⟩
            case measure => simp [intOf]; omega
           | true =>
            have a1 : Zc.cell? ⟨Ce, 1, none⟩ = some (.int .i64 t1) := by
             have h := (HNZc.out.bx (Ce, (.cells #[.int .i64 ef, .int .i64 t1, .int .i64 ek, .int .i64 ew] 48 (0, 0))) (by simp)).1
             simp [World.cell?, h]
            have a2 : Zc.cell? ⟨Cf, 1, none⟩ = some (.int .i64 t2) := by
             have h := (HNZc.out.bx (Cf, (.cells #[.int .i64 ff, .int .i64 t2, .int .i64 fk, .int .i64 fw] 48 (0, 0))) (by simp)).1
             simp [World.cell?, h]
            have HGO := Lib.hid (show Calls Tryd.prog 58 #[.int .i64 c, .agg #[.int .i64 t1, .int .i64 t2, .int .i64 t3], .pointer (some ⟨p9, 0, none⟩), .pointer (some ⟨p11, 0, none⟩), .pointer (some ⟨p12, 0, none⟩)] Zc _ from
             HJ.out.step _ U4 Zc c ((t1 : Int), (t2 : Int), (t3 : Int)) HNZc.out.j ⟨⟨HTa.out.1, HTa.out.2⟩, ⟨HTb.out.1, HTb.out.2⟩, ⟨HTc.out.1, HTc.out.2⟩⟩)
            have HF4 := Lib.hid (lvl_step (l' := l3 ++ [(c, ((t1 : Int), (t2 : Int), (t3 : Int)))]) (R := fun t => t = ((t1 : Int), (t2 : Int), (t3 : Int))) hsl HL4.out (fun c' t => mem_snoc) (fun t => show B3 p2 ⟨ef, t1, ek, ew⟩ ⟨ff, t2, fk, fw⟩ L3[s] t ↔ _ from by
             rw [← HEcc.out]
             constructor
             ·exact fun h => h.2
             ·exact fun h => ⟨by show p2.testBit ((t3 : Int)).toNat = true; rw [show ((t3 : Int)).toNat = t3 by omega]; exact HTBc.out.symm, h⟩))
            go_upto_region 15 with fail
            rw [← HZc.out, ← HCc.out]
            clear x0 x1 x2 x3
            go_upto_region 16 with (go_at_call 23; with_reducible refine (hh3.out _).mono ?_; rintro e w' ⟨rfl, rfl⟩)
            go_wp2_with fail
            refine HGO.out.mono ?_
            rintro e w5 ⟨rfl, U5, hj5, hk5, hu5⟩
            have HNF := Lib.hid (HNZc.out.step (l' := l3 ++ [(c, ((t1 : Int), (t2 : Int), (t3 : Int)))]) hk5 (by rw [← List.append_assoc]; exact hj5) hu5)
            clear hj5 hk5 hu5 a1 a2 e1 cp
            go_wp2
            go_roundw
            case rel => exact ⟨s + 1, l3 ++ [(c, ((t1 : Int), (t2 : Int), (t3 : Int)))], U5, hsl, by go_num, HNF.out.less (by simp), HF4.out⟩
            case measure => simp [intOf]; omega
          ·obtain rfl : s = L3.length := by omega
           have HF3 := Lib.hid (lvl_step hql HL3.out (by have := HL4.out; rwa [List.take_of_length_le (Nat.le_refl _)] at this) (fun t => show B2 p1 p2 L3 ⟨ef, t1, ek, ew⟩ L2[q] t ↔ ∃ f ∈ L3, B3 p2 ⟨ef, t1, ek, ew⟩ ⟨ff, t2, fk, fw⟩ f t from by
            rw [← HEbb.out]
            constructor
            ·exact fun h => h.2
            ·exact fun h => ⟨by show p1.testBit ((t2 : Int)).toNat = true; rw [show ((t2 : Int)).toNat = t2 by omega]; exact HTBb.out.symm, h⟩))
           go_wp2
           go_roundw
           case rel => exact ⟨q + 1, l3, U4, hql, by go_num, HNX5.out.less (by simp), HF3.out⟩
           case measure => simp [intOf]; omega
       ·obtain rfl : q = L2.length := by omega
        have HF2 := Lib.hid (lvl_step hpl HL2.out (by have := HL3.out; rwa [List.take_of_length_le (Nat.le_refl _)] at this) (fun t => show B1 p0 p1 p2 L2 L3 L1[p] t ↔ ∃ f ∈ L2, B2 p1 p2 L3 ⟨ef, t1, ek, ew⟩ f t from by
         rw [← HEaa.out]
         constructor
         ·exact fun h => h.2
         ·exact fun h => ⟨by show p0.testBit ((t1 : Int)).toNat = true; rw [show ((t1 : Int)).toNat = t1 by omega]; exact HTBa.out.symm, h⟩))
        go_wp2
        go_roundw
        case rel => exact ⟨p + 1, l2, U3, hpl, by go_num, HNX4.out.less (by simp), HF2.out⟩
        case measure => simp [intOf]; omega
    ·obtain rfl : p = L1.length := by omega
     have HF := Lib.hid (HFIN.out l1 (by have := HL2.out; rwa [List.take_of_length_le (Nat.le_refl _)] at this))
     have HMEAS := Lib.hid (show wB.rangeLeft mb r < wA.rangeLeft mb r by rw [HNX3.out.rg.left_eq]; exact HLT2.out)
     go_wp2
     go_roundw
     case rel => exact ⟨left2, cnt2, l1, U2, HNX3.out, HF.out⟩
     case measure => exact HMEAS.out
end Go.Proofs.YtphnbmdcgcchaaaDoor
