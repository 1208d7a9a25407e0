/- Part 41 of the proof. No condition: every lemma says its own. -/
import Derived.Test.YtkekenaamnhbhaaGreatZsau
import Derived.Test.YtkekenaamnhbhaaGreatZsav
import Derived.Test.YtkekenaamnhbhaaGreatZsax
import Derived.Test.YtkekenaamnhbhaaGreatZsay
import Derived.Test.YtkekenaamnhbhaaGreatZsbf
import Derived.Test.YtkekenaamnhbhaaGreatZsbn
namespace Go.Proofs.YtkekenaamnhbhaaGreat
open Go.RowKit Go.BigFrame
set_option maxRecDepth 100000
set_option maxHeartbeats 16000000
def crK (of rk : List Int) (N : Nat) : Nat → List Int
 | 0 => List.replicate N 0
 | k + 1 => if 0 ≤ of.getD k 0 then (crK of rk N k).set k (rk.getD (of.getD k 0).toNat 0) else crK of rk N k
theorem crK_length (of rk : List Int) (N : Nat) : ∀ k, (crK of rk N k).length = N
 | 0 => by simp [crK]
 | k + 1 => by
  rw [crK]
  split
  ·rw [List.length_set]; exact crK_length of rk N k
  ·exact crK_length of rk N k
theorem crK_bd {of rk : List Int} {N B : Nat} (h : RB rk B) : ∀ k, RB (crK of rk N k) B
 | 0 => fun q => by
  have : (List.replicate N (0 : Int)).getD q 0 = 0 := by
   simp only [List.getD_eq_getElem?_getD, List.getElem?_replicate]
   split <;> rfl
  simp only [crK, this]
  omega
 | k + 1 => fun q => by
  have ih := crK_bd (of := of) (N := N) h k q
  have h2 := h (of.getD k 0).toNat
  rw [crK]
  split
  ·simp only [List.getD_eq_getElem?_getD, List.getElem?_set] at *
   split
   ·split
    ·simp only [Option.getD_some]; omega
    ·simp
   ·exact ih
  ·exact ih
def facP (s : Nat) (x : Gr) (of : List Int) (q : List Pt) : Int := min (min (2 * (s : Int) * x.nodes.length) 1099511627777 * sprP of x.first x.edges q x.nodes.length) 1099511627777
def qsP (x : Gr) (F : Nat) (ps : List Pt) : List Pt := desP (ngPas x (F + 1)).of x.edges x.nodes.length ps
def rkP (x : Gr) (F : Nat) (ps : List Pt) : List Int := crK (ngPas x (F + 1)).of (rnkK (ngPas x (F + 1)).of (qsP x F ps) x.edges (qsP x F ps).length) x.nodes.length x.nodes.length
structure GoodX (x : Gr) (F s : Nat) : Prop where
 ng : NgPre x F
 gv : gvalE x = 0
 nd : ∀ ps, Raw ps (ngPas x (F + 1)).L → ∀ i, i < (qsP x F ps).length → 0 < ((qsP x F ps).getD i pt0).nodes.length ∧ NoDbl x (((qsP x F ps).getD i pt0).nodes.getD 0 0)
 sp : ∀ ps, Raw ps (ngPas x (F + 1)).L → SpPre x (ngPas x (F + 1)).of (qsP x F ps)
 ln : ∀ ps, Raw ps (ngPas x (F + 1)).L → (qsP x F ps).length ≤ 64
 fac : ∀ ps, Raw ps (ngPas x (F + 1)).L → facP s x (ngPas x (F + 1)).of (qsP x F ps) ≤ 1099511627776
 hs : s ≤ 100000
 le : x.edges.length ≤ 10000
def PrpOut (w : World) (F s : Nat) (GP : Gr → Prop) (e : Ending) (w' : World) : Prop :=
 ∃ (x : Gr) (ps : List Pt) (gb cb : Nat), GP x ∧ Raw ps (ngPas x (F + 1)).L ∧
  e = .returned (.tuple #[.pointer (some ⟨gb, 0, none⟩), .agg #[.slice (some ⟨cb, 0, none⟩) x.nodes.length x.nodes.length, .int .i64 (facP s x (ngPas x (F + 1)).of (qsP x F ps)), .int .i64 (degreeP (ngPas x (F + 1)).of (rkP x F ps) (qsP x F ps))], .int .i64 0]) ∧
  SliceAt w' 3 1 (some cb) x.nodes.length x.nodes.length (bi (rkP x F ps)) ∧ Keeps [] w w'
theorem sizeCe : (Tryz.prog.info? 30).map (·.size) = some 3 := by kernel_rfl
theorem res_tmp_row_tmp {P : Program} {fn : Func} {r p q : Tmp} {ty : TypeId} (h : fn.results = #[.tmp r, .cell p ty, .tmp q]) (tmps : Array Value) (w : World) (g : Nat) (t : TypeId) (cs : Array Value) (fr : Nat × Nat) (d : TypeDesc)
  (hp : tmps.getD p undef = .pointer (some ⟨g, 0, none⟩)) (hg : w.heap[g]? = some (.cells cs t fr))
  (hu : P.underlying ty = some d) (hd : (match d with | .struct _ | .array _ _ => true | _ => false) = true) (hi : (P.info? ty).map (·.size) = some cs.size) :
  (results fn tmps).run P w = .ok (.tuple #[tmps.getD r undef, .agg cs, tmps.getD q undef]) w := by
 have hp' : tmps[p]?.getD undef = .pointer (some ⟨g, 0, none⟩) := by simpa using hp
 simp [results, h, hp', asAddr, run_loadVar_row w g t ty cs fr d hg hu hd hi]
set_option linter.unusedSimpArgs false in
theorem prepare_any (w : World) (m : MRe) (F s : Nat) (PP : Pg → Prop) (GP : Gr → Prop) (hm : m.OK w) (hsz : szN m.tree = s)
  (HCo : ∀ W, Keeps [] w W → Calls Tryz.prog 37 #[patP m] W fun e W' => Keeps [] W W' ∧ ∃ p : Pg, e = .returned (.tuple #[p.val, .int .i64 0]) ∧ PgIn W' p ∧ PP p)
  (HOf : ∀ W p, PgIn W p → PP p → Calls Tryz.prog 38 #[p.val] W fun e W' => Keeps [] W W' ∧ ∃ x : Gr, e = .returned (.tuple #[x.val, .int .i64 0]) ∧ GrIn W' x ∧ GP x)
  (HG : ∀ x, GP x → GoodX x F s) :
  Calls Tryz.prog 32 #[patP m] w (PrpOut w F s GP) := by
 obtain ⟨ii, hii, hiz, his, hib⟩ := infoParts infoInt
 have HMS : ∀ (W : World) (N : Nat), N ≤ 64 → (Instr.makeSlice 22 (.int .i64 (N : Nat)) (.int .i64 (N : Nat))).run Tryz.prog W = .ok (.slice (some ⟨W.heap.size, 0, none⟩) N N) (W.alloc (.cells (List.replicate N (.int .i64 0)).toArray 3)) :=
  fun W N h => run_make_one Tryz.underlying22 hii hiz his hib rfl W N (by omega)
 have HMS := gI HMS
 obtain ⟨Q, hQ⟩ : ∃ Q, Q = PrpOut w F s GP := ⟨_, rfl⟩
 rw [← hQ]
 have HQ := gI hQ
 have HSZ := gI (show s ≤ 100000 → ∀ W, Keeps [] w W → Calls Tryz.prog 43 #[.agg m.row.toArray] W fun e w' => e = .returned (.int .i64 (s : Nat)) ∧ Keeps [] W w' from fun h W k => by
  have h := size_any m W (hm.keep k) (by omega)
  rw [hsz] at h
  exact h)
 have HCO := gI HCo
 have HOF := gI HOf
 have HGD := gI HG
 have hpv : patP m = .agg (m.row ++ [Value.int .i64 0, Value.bool false]).toArray := rfl
 rw [hpv] at HCO ⊢
 obtain ⟨op, sa, sc, set, ka, kc, kids, mn, mx, mode, n, neg⟩ := m
 have HCO := gI (show ∀ W, Keeps [] w W → Calls Tryz.prog 37 #[.agg #[.int .i64 op, .slice sa set.length sc, .slice ka kids.length kc, .int .i64 mn, .int .i64 mx, .int .i64 mode, .int .i64 n, .bool neg, .int .i64 0, .bool false]] W fun e W' => Keeps [] W W' ∧ ∃ p : Pg, e = .returned (.tuple #[p.val, .int .i64 0]) ∧ PgIn W' p ∧ PP p from HCO.out)
 have HSZ := gI (show s ≤ 100000 → ∀ W, Keeps [] w W → Calls Tryz.prog 43 #[.agg #[.int .i64 op, .slice sa set.length sc, .slice ka kids.length kc, .int .i64 mn, .int .i64 mx, .int .i64 mode, .int .i64 n, .bool neg]] W fun e w' => e = .returned (.int .i64 (s : Nat)) ∧ Keeps [] W w' from HSZ.out)
 show Calls Tryz.prog 32 #[.agg #[.int .i64 op, .slice sa set.length sc, .slice ka kids.length kc, .int .i64 mn, .int .i64 mx, .int .i64 mode, .int .i64 n, .bool neg, .int .i64 0, .bool false]] w _
 obtain ⟨B, hB⟩ : ∃ B, B = w.heap.size := ⟨_, rfl⟩
 obtain ⟨Y1, hY1⟩ : ∃ Y, Y = w.alloc (.cells #[.int .i64 op, .slice sa set.length sc, .slice ka kids.length kc, .int .i64 mn, .int .i64 mx, .int .i64 mode, .int .i64 n, .bool neg, .int .i64 0, .bool false] 58) := ⟨_, rfl⟩
 have k1 : Keeps [] w Y1 := by rw [hY1]; exact Keeps.a1 _ _
 have s1 : Y1.heap.size = B + 1 := by rw [hY1, hB]; simp
 obtain ⟨Y, hY⟩ : ∃ Y, Y = Y1.alloc (.cells #[.slice none 0 0, .int .i64 0, .int .i64 0] 30) := ⟨_, rfl⟩
 have k2 : Keeps [] Y1 Y := by rw [hY]; exact Keeps.a1 _ _
 have hb1 : Y1.heap[B]? = some (.cells #[.int .i64 op, .slice sa set.length sc, .slice ka kids.length kc, .int .i64 mn, .int .i64 mx, .int .i64 mode, .int .i64 n, .bool neg, .int .i64 0, .bool false] 58 (0, 0)) := by rw [hY1, hB]; exact heap_alloc_new _ _
 have HB1 := gI (k2.heap hb1 (by simp))
 have HB2 := gI (show Y.heap[B + 1]? = some (.cells #[.slice none 0 0, .int .i64 0, .int .i64 0] 30 (0, 0)) by rw [hY, ← s1]; exact heap_alloc_new _ _)
 have HKY := gI (k1.trans k2)
 have HPT := gI (show ∀ W, Keeps [] Y W → W.cell? ⟨B, 0, none⟩ = some (.int .i64 op) ∧ W.cell? ⟨B, 1, none⟩ = some (.slice sa set.length sc) ∧ W.cell? ⟨B, 2, none⟩ = some (.slice ka kids.length kc) ∧ W.cell? ⟨B, 3, none⟩ = some (.int .i64 mn) ∧ W.cell? ⟨B, 4, none⟩ = some (.int .i64 mx) ∧ W.cell? ⟨B, 5, none⟩ = some (.int .i64 mode) ∧ W.cell? ⟨B, 6, none⟩ = some (.int .i64 n) ∧ W.cell? ⟨B, 7, none⟩ = some (.bool neg) ∧ W.cell? ⟨B, 8, none⟩ = some (.int .i64 0) ∧ W.cell? ⟨B, 9, none⟩ = some (.bool false) from fun W k => by
  have h := k.heap HB1.out (by simp)
  simp [World.cell?, h])
 have HY1 := gI hY1
 have HY := gI hY
 have HB := gI hB
 have HS1 := gI s1
 obtain ⟨q0, q1, q2, q3, q4, q5, q6, q7, q8, q9⟩ := HPT.out Y (Keeps.refl _ _)
 clear hQ hm hsz HCo HOf HG hpv hB hY1 k1 s1 hY k2 hb1 hii hiz his hib
 go_enter Tryz.func32, Tryz.ntmps32
 go_upto_region 1 with fail
 rw [← HY1.out, ← HY.out, ← HB.out]
 go_wp2_with fail
 with_reducible refine Calls.mono (HCO.out Y HKY.out) ?_
 rintro e w3 ⟨hk3, p, rfl, hpg, hpp⟩
 obtain ⟨pia, pic, pins, pcaps, pruns⟩ := p
 have HOFW := gI (fun W (k : Keeps [] w3 W) => HOF.out W _ (hpg.keep k) hpp)
 have HK3 := gI hk3
 simp only [Pg.val] at HOFW ⊢
 obtain ⟨pl, hpl⟩ : ∃ n, n = pins.length := ⟨_, rfl⟩
 rw [← hpl] at HOFW ⊢
 obtain ⟨C3, hC3⟩ : ∃ C, C = w3.heap.size := ⟨_, rfl⟩
 obtain ⟨Z3, hZ3⟩ : ∃ Z, Z = w3.alloc (.cells #[.slice pia pl pic, .int .i64 pcaps, .bool pruns] 83) := ⟨_, rfl⟩
 have hkZ3 : Keeps [] w3 Z3 := by rw [hZ3]; exact Keeps.a1 _ _
 have hZ3H : Z3.heap[C3]? = some (.cells #[.slice pia pl pic, .int .i64 pcaps, .bool pruns] 83 (0, 0)) := by rw [hZ3, hC3]; exact heap_alloc_new _ _
 have z30 : Z3.cell? ⟨C3, 0, none⟩ = some (.slice pia pl pic) := by simp [World.cell?, hZ3H]
 have z31 : Z3.cell? ⟨C3, 1, none⟩ = some (.int .i64 pcaps) := by simp [World.cell?, hZ3H]
 have z32 : Z3.cell? ⟨C3, 2, none⟩ = some (.bool pruns) := by simp [World.cell?, hZ3H]
 have HKZ3 := gI hkZ3
 have HZ3 := gI hZ3
 have HC3 := gI hC3
 clear hk3 hpg hpp hpl hC3 hZ3 hkZ3 hZ3H q0 q1 q2 q3 q4 q5 q6 q7 q8 q9
 go_upto_region 4 with fail
 rw [← HZ3.out, ← HC3.out]
 go_wp2_with fail
 with_reducible refine Calls.mono (HOFW.out Z3 HKZ3.out) ?_
 rintro e w4 ⟨hk4, x, rfl, hx, hgx⟩
 obtain ⟨hng, hgv, hnd, hsp, hln, hfac, hs, hle⟩ := HGD.out x hgx
 have HGX := gI hgx
 have HND := gI hnd
 have HSP := gI hsp
 have HLN := gI hln
 have HFAC := gI hfac
 have HGV := gI hgv
 have HSS := gI hs
 have HLE := gI hle
 have HNGP := gI hng
 have HK4 := gI (HK3.out.trans (HKZ3.out.trans hk4))
 have h64 := hng.hN
 have HNGW := gI (fun W (k : Keeps [] w4 W) => newGraph_any describe_any W x F (hx.keep k) hng)
 have HGI := gI (fun W (k : Keeps [] w4 W) => hx.keep k)
 simp only [Gr.val] at HNGW ⊢
 obtain ⟨N, hNN⟩ : ∃ N, N = x.nodes.length := ⟨_, rfl⟩
 obtain ⟨X4, hX4⟩ : ∃ X, X = w4.heap.size := ⟨_, rfl⟩
 obtain ⟨Z4, hZ4⟩ : ∃ Z, Z = w4.alloc (.cells #[.slice x.ca x.cls.length x.cc, .slice x.na N x.nc, .slice x.fa x.first.length x.fc, .slice x.ea x.edges.length x.ec] 89) := ⟨_, rfl⟩
 have hkZ4 : Keeps [] w4 Z4 := by rw [hZ4]; exact Keeps.a1 _ _
 have hZ4H : Z4.heap[X4]? = some (.cells x.row.toArray 89 (0, 0)) := by rw [hZ4, hX4, hNN]; exact heap_alloc_new _ _
 have HZ4H := gI hZ4H
 rw [← hNN] at HNGW h64 ⊢
 obtain ⟨z40, z41, z42, z43⟩ := row_cells4 hZ4H
 rw [← hNN] at z41
 have HNN := gI hNN
 have HKZ4 := gI hkZ4
 have HZ4 := gI hZ4
 have HX4 := gI hX4
 clear hk4 hx hgx hng hgv hnd hsp hln hfac hs hle hNN hX4 hZ4 hkZ4 hZ4H z30 z31 z32
 go_upto_region 7 with fail
 rw [← HZ4.out, ← HX4.out]
 go_wp2_with fail
 with_reducible refine Calls.mono (HNGW.out Z4 HKZ4.out) ?_
 rintro e w5 ⟨gb, rb, ob, pa, pc, ps, rfl, hraw, hbn⟩
 have hk5 := hbn.k
 have hbn : BN Z4 w5 gb x rb ob pa pc (ngRows x) (ngPas x (F + 1)).of (qsP x F ps) := hbn
 have HOL := gI (show (ngPas x (F + 1)).of.length = N by
  rw [HNN.out]
  exact HNGP.out.des.ho)
 have hsp := HSP.out ps hraw
 have hK64 := HLN.out ps hraw
 have hnd := HND.out ps hraw
 have hfac := HFAC.out ps hraw
 have HRK := gI (show rkP x F ps = crK (ngPas x (F + 1)).of (rnkK (ngPas x (F + 1)).of (qsP x F ps) x.edges (qsP x F ps).length) N N by rw [HNN.out]; rfl)
 have HRAW := gI hraw
 obtain ⟨of, hof⟩ : ∃ o, o = (ngPas x (F + 1)).of := ⟨_, rfl⟩
 obtain ⟨q, hq⟩ : ∃ z, z = qsP x F ps := ⟨_, rfl⟩
 rw [← hof] at hbn HOL hsp hfac HRK
 rw [← hq] at hbn hsp hK64 hnd hfac HRK
 have HOFE := gI hof
 have HQE := gI hq
 have hK0 : 0 < q.length := by
  have h1 := hsp.hof of.length
  simp at h1
  omega
 obtain ⟨pb, rfl, _⟩ := pt_cells hbn.bg.prt hK0
 have HK5 := gI (HK4.out.trans (HKZ4.out.trans hk5))
 have HBG := gI (fun W (k : Keeps [] w5 W) => hbn.bg.keep k)
 have HGI5 := gI (fun W (k : Keeps [] w5 W) => HGI.out W (HKZ4.out.trans (hk5.trans k)))
 have HX4H := gI (fun W (k : Keeps [] w5 W) => (hk5.trans k).heap HZ4H.out (by simp))
 have hbg := bg_cells hbn.bg.box
 rw [← HNN.out] at hbg
 obtain ⟨_, _, c5, c6⟩ := hbg
 have HCF := gI (ptContains_any w5 pb pc X4 q hbn.bg.prt (by omega) (fun W k i hi => prc_any W x X4 (HGI5.out W k) (HX4H.out W k) HGV.out (q.getD i pt0) ((hbn.bg.keep k).nds _ (by rw [List.getD_eq_getElem?_getD, List.getElem?_eq_getElem hi]; exact List.getElem_mem hi)) (hnd i hi).1 (hnd i hi).2))
 obtain ⟨J, hKK⟩ : ∃ K, K = q.length := ⟨_, rfl⟩
 rw [← hKK] at c6 HCF hK64
 have HKK := gI hKK
 have HSPP := gI hsp
 simp only [sv, Option.map_some] at c6
 clear hk5 hbn hsp hnd hof hq hK0 hraw hKK z40 z41 z42 z43
 go_wp2_with fail
 with_reducible refine Calls.mono HCF.out ?_
 rintro e w6 ⟨rfl, hk6⟩
 have HK6 := gI hk6
 have HK6A := gI (HK5.out.trans hk6)
 clear hk6 c5 c6
 obtain ⟨q0, q1, q2, q3, q4, q5, q6, q7, _, _⟩ := HPT.out w6.drew HK6A.out.drew
 have x1 := (row_cells4 (HX4H.out w6.drew HK6.out.drew)).2.1
 rw [← HNN.out] at x1
 have hss := HSS.out
 have hw2 : IntKind.i64.wrap (2 * (s : Int)) = 2 * (s : Int) := IntWalk.i64_in _ (by omega)
 have HC1 := gI (HSZ.out hss w6.drew (HKY.out.trans HK6A.out.drew))
 go_upto_region 10 with fail
 refine wp_region_held_drew (S := fun W => (W.cell? ⟨B, 0, none⟩ = some (.int .i64 op) ∧ W.cell? ⟨B, 1, none⟩ = some (.slice sa set.length sc) ∧ W.cell? ⟨B, 2, none⟩ = some (.slice ka kids.length kc) ∧ W.cell? ⟨B, 3, none⟩ = some (.int .i64 mn) ∧ W.cell? ⟨B, 4, none⟩ = some (.int .i64 mx) ∧ W.cell? ⟨B, 5, none⟩ = some (.int .i64 mode) ∧ W.cell? ⟨B, 6, none⟩ = some (.int .i64 n) ∧ W.cell? ⟨B, 7, none⟩ = some (.bool neg)) ∧ W.cell? ⟨X4, 1, none⟩ = some (.slice x.na N x.nc)) (by kernel_rfl) ⟨⟨q0, q1, q2, q3, q4, q5, q6, q7⟩, x1⟩ (fun hHeld => ?_)
 refine take_on (i := 0) (v := ?_) rfl (by kernel_rfl) (by kernel_rfl) (by kernel_rfl) (fun _ _ _ h => h) (by rfl) (by assumption) ?_ ?_
 rotate_left
 ·((intro w hSw; (try dsimp only at hSw); go_simp <;> with_reducible rfl); done)
 try simp only [Act.put, List.setIfInBounds_toArray, List.set_cons_zero, List.set_cons_succ]
 refine take_on (i := 1) (v := ?_) rfl (by kernel_rfl) (by kernel_rfl) (by kernel_rfl) (fun _ _ _ h => h) (by rfl) (by assumption) ?_ ?_
 rotate_left
 ·((intro w hSw; (try dsimp only at hSw); go_simp <;> with_reducible rfl); done)
 try simp only [Act.put, List.setIfInBounds_toArray, List.set_cons_zero, List.set_cons_succ]
 refine take_on (i := 4) (v := ?_) rfl (by kernel_rfl) (by kernel_rfl) (by kernel_rfl) (fun _ _ _ h => h) (by rfl) (by assumption) ?_ ?_
 rotate_left
 ·((intro w hSw; (try dsimp only at hSw); go_simp <;> with_reducible rfl); done)
 try simp only [Act.put, List.setIfInBounds_toArray, List.set_cons_zero, List.set_cons_succ]
 refine take_on (i := 5) (v := ?_) rfl (by kernel_rfl) (by kernel_rfl) (by kernel_rfl) (fun _ _ _ h => h) (by rfl) (by assumption) ?_ ?_
 rotate_left
 ·((intro w hSw; (try dsimp only at hSw); go_simp <;> with_reducible rfl); done)
 try simp only [Act.put, List.setIfInBounds_toArray, List.set_cons_zero, List.set_cons_succ]
 refine take_on (i := 6) (v := ?_) rfl (by kernel_rfl) (by kernel_rfl) (by kernel_rfl) (fun _ _ _ h => h) (by rfl) (by assumption) ?_ ?_
 rotate_left
 ·((intro w hSw; (try dsimp only at hSw); go_simp <;> with_reducible rfl); done)
 try simp only [Act.put, List.setIfInBounds_toArray, List.set_cons_zero, List.set_cons_succ]
 refine take_on (i := 8) (v := ?_) rfl (by kernel_rfl) (by kernel_rfl) (by kernel_rfl) (fun _ _ _ h => h) (by rfl) (by assumption) ?_ ?_
 rotate_left
 ·((intro w hSw; (try dsimp only at hSw); go_simp <;> with_reducible rfl); done)
 try simp only [Act.put, List.setIfInBounds_toArray, List.set_cons_zero, List.set_cons_succ]
 refine branch_one (i := 2) rfl (by kernel_rfl) (by rfl) (fun K hK => ?_)
 go_simp
 with_reducible refine Calls.mono HC1.out ?_
 rintro e w7 ⟨rfl, hk7⟩
 have HK7 := gI (HK6.out.drew.trans hk7)
 have HK7A := gI (HK5.out.trans HK7.out)
 obtain ⟨r0, r1, r2, r3, r4, r5, r6, r7, _, _⟩ := HPT.out w7 HK7A.out
 have y1 := (row_cells4 (HX4H.out w7 HK7.out)).2.1
 rw [← HNN.out] at y1
 have hb1 : (0 : Int) ≤ 2 * (s : Int) ∧ 2 * (s : Int) ≤ 1099511627777 := by omega
 have hN1 : (0 : Int) ≤ (N : Int) ∧ (N : Int) ≤ 1099511627777 := by omega
 have HC2 := gI (btimes_any (2 * (s : Int)) (N : Int) w7 hb1.1 hb1.2 hN1.1 hN1.2)
 have hm1 := spd_min (Int.mul_nonneg hb1.1 hN1.1)
 have HSPR := gI (spread_any w7 gb x rb ob (some pb) pc (ngRows x) of q (HBG.out w7 HK7.out) HSPP.out)
 have hsb := (spdK_ok (of := of) (first := x.first) (wd := wdK x.edges x.edges.length) (fun i => (HSPP.out.hfb i).1) (fun n m => (wdK_ok HSPP.out.hws n m _).1) (N := x.nodes.length) (ps := q) q.length).2
 have HFE := gI (show facP s x of q = min (min (2 * (s : Int) * N) 1099511627777 * sprP of x.first x.edges q x.nodes.length) 1099511627777 by rw [HNN.out]; rfl)
 have hsb2 : 0 ≤ sprP of x.first x.edges q x.nodes.length ∧ sprP of x.first x.edges q x.nodes.length ≤ 1099511627777 := hsb
 obtain ⟨spr, hspr⟩ : ∃ v, v = sprP of x.first x.edges q x.nodes.length := ⟨_, rfl⟩
 rw [← hspr] at HSPR HFE hsb2
 obtain ⟨t1, ht1⟩ : ∃ v, v = min (2 * (s : Int) * N) 1099511627777 := ⟨_, rfl⟩
 rw [← ht1] at HC2 HFE hm1
 obtain ⟨fac, hfa⟩ : ∃ v, v = facP s x of q := ⟨_, rfl⟩
 rw [← hfa] at HFE hfac
 have hfnn := (spd_min (Int.mul_nonneg hm1.1 hsb2.1)).1
 rw [← HFE.out] at hfnn
 have HFA := gI hfa
 clear hk7 hsb hspr ht1 hfa
 refine hK.out _ _ (⟨⟨r0, r1, r2, r3, r4, r5, r6, r7⟩, y1⟩) (fun hHeld => ?_)
 clear hK K
 try simp only [Act.put, List.setIfInBounds_toArray, List.set_cons_zero, List.set_cons_succ]
 refine take_on (i := 3) (v := ?_) rfl (by kernel_rfl) (by kernel_rfl) (by kernel_rfl) (fun _ _ _ h => h) (by rfl) (by assumption) ?_ ?_
 rotate_left
 ·((intro w hSw; (try dsimp only at hSw); go_simp <;> with_reducible rfl); done)
 try simp only [Act.put, List.setIfInBounds_toArray, List.set_cons_zero, List.set_cons_succ]
 refine branch_one (i := 7) rfl (by kernel_rfl) (by rfl) (fun K hK => ?_)
 go_simp
 with_reducible refine Calls.mono HC2.out ?_
 rintro e w8 ⟨rfl, rfl⟩
 refine hK.out _ _ (⟨⟨r0, r1, r2, r3, r4, r5, r6, r7⟩, y1⟩) (fun hHeld => ?_)
 clear hK K
 try simp only [Act.put, List.setIfInBounds_toArray, List.set_cons_zero, List.set_cons_succ]
 refine branch_one (i := 9) rfl (by kernel_rfl) (by rfl) (fun K hK => ?_)
 go_simp
 with_reducible refine Calls.mono HSPR.out ?_
 rintro e w8 ⟨rfl, hk8⟩
 have HK8 := gI (HK7.out.trans hk8)
 have HK8A := gI (HK5.out.trans HK8.out)
 obtain ⟨s0, s1, s2, s3, s4, s5, s6, s7, _, _⟩ := HPT.out w8 HK8A.out
 have z1 := (row_cells4 (HX4H.out w8 HK8.out)).2.1
 rw [← HNN.out] at z1
 have HC3 := gI (btimes_any t1 spr w8 hm1.1 hm1.2 hsb2.1 hsb2.2)
 rw [← HFE.out] at HC3
 clear hk8
 refine hK.out _ _ (⟨⟨s0, s1, s2, s3, s4, s5, s6, s7⟩, z1⟩) (fun hHeld => ?_)
 clear hK K
 try simp only [Act.put, List.setIfInBounds_toArray, List.set_cons_zero, List.set_cons_succ]
 refine branch_one (i := 10) rfl (by kernel_rfl) (by rfl) (fun K hK => ?_)
 go_simp
 with_reducible refine Calls.mono HC3.out ?_
 rintro e w9 ⟨rfl, rfl⟩
 refine hK.out _ _ (⟨⟨s0, s1, s2, s3, s4, s5, s6, s7⟩, z1⟩) (fun hHeld => ?_)
 clear hK K
 try simp only [Act.put, List.setIfInBounds_toArray, List.set_cons_zero, List.set_cons_succ]
 refine take_on (i := 11) (v := ?_) rfl (by kernel_rfl) (by kernel_rfl) (by kernel_rfl) (fun _ _ _ h => h) (by rfl) (by assumption) ?_ ?_
 rotate_left
 ·((intro w hSw; (try dsimp only at hSw); go_simp <;> with_reducible rfl); done)
 try simp only [Act.put, List.setIfInBounds_toArray, List.set_cons_zero, List.set_cons_succ]
 refine wpAnyH_done (by kernel_rfl) ?_ _
 clear hHeld q0 q1 q2 q3 q4 q5 q6 q7 x1 r0 r1 r2 r3 r4 r5 r6 r7 y1 s0 s1 s2 s3 s4 s5 s6 s7
 have hfc : ¬ (1099511627776 : Int) < fac := by omega
 obtain ⟨cb, hcb⟩ : ∃ c, c = w8.heap.size := ⟨_, rfl⟩
 obtain ⟨W9, hW9⟩ : ∃ W, W = w8.alloc (.cells (Array.replicate N (.int .i64 0)) 3) := ⟨_, rfl⟩
 have ka : Keeps [] w8 W9 := by rw [hW9]; exact Keeps.a1 _ _
 have sa : W9.heap.size = cb + 1 := by rw [hW9, hcb]; simp
 have ha : W9.heap[cb]? = some (.cells (Array.replicate N (.int .i64 0)) 3 (0, 0)) := by rw [hW9, hcb]; exact heap_alloc_new _ _
 obtain ⟨Z9, hZ9⟩ : ∃ W, W = W9.alloc (.cells #[.slice (some ⟨cb, 0, none⟩) N N, .int .i64 fac, .int .i64 0] 30) := ⟨_, rfl⟩
 have kb : Keeps [] W9 Z9 := by rw [hZ9]; exact Keeps.a1 _ _
 have hb9 : Z9.heap[cb + 1]? = some (.cells #[.slice (some ⟨cb, 0, none⟩) N N, .int .i64 fac, .int .i64 0] 30 (0, 0)) := by rw [hZ9, ← sa]; exact heap_alloc_new _ _
 have HB9 := gI hb9
 have hsl := SliceAt.of_row (size := 1) (c := N) (kb.heap ha (by simp)) (by simp) (by unfold maxLen; omega)
 have HSL := gI (show SliceAt Z9 3 1 (some cb) N N (bi (List.replicate N 0)) by simpa [bi] using hsl)
 have HK9 := gI (HK8.out.trans (ka.trans kb))
 have HMSN := HMS.out w8 N h64
 have HW9 := gI hW9
 have HZ9 := gI hZ9
 have HCB := gI hcb
 have HSA := gI sa
 clear hcb hW9 ka sa ha hZ9 kb hb9 hsl
 go_upto_region 14 with fail
 try simp only [List.toArray_replicate]
 rw [← HW9.out, ← HCB.out, ← HZ9.out]
 clear z1
 have HCR := gI (ranks_any Z9 gb x rb ob (some pb) pc (ngRows x) of q (HBG.out Z9 HK9.out) HSPP.out.ho (by rw [← HKK.out]; exact hK64) HSPP.out.hof (fun i hi => by have := HSPP.out.hE i hi; omega) HSPP.out.hel)
 rw [← HKK.out] at HCR HRK
 have HRB := gI (show ∀ i, 0 ≤ (rnkK of q x.edges J).getD i 0 ∧ (rnkK of q x.edges J).getD i 0 ≤ 1000000 from fun i => by
  have h := rnkK_bd (of := of) (ps := q) (es := x.edges) J i
  have h2 : J * x.edges.length ≤ 64 * 10000 := Nat.mul_le_mul (by omega) HLE.out
  omega)
 have HRL := gI (show (rnkK of q x.edges J).length = J by rw [rnkK_length, HKK.out])
 obtain ⟨rk, hrk⟩ : ∃ r, r = rnkK of q x.edges J := ⟨_, rfl⟩
 rw [← hrk] at HCR HRK HRB HRL
 go_wp2_with fail
 with_reducible refine Calls.mono HCR.out ?_
 rintro e w10 ⟨kb, rfl, hrs, hkbn, hk10⟩
 have HK10 := gI (HK9.out.trans hk10)
 have HRS := gI hrs
 have HCL := gI (show cb < Z9.heap.size from HSL.out.lt)
 have HKB := gI hkbn
 have HS10 := gI (show SliceAt w10 3 1 (some cb) N N (bi (crK of rk N 0)) from HSL.out.keep hk10 (by simp))
 have HB10 := gI (hk10.heap HB9.out (by simp))
 have hbg := bg_cells (HBG.out w10 HK10.out).box
 rw [← HNN.out] at hbg
 obtain ⟨_, _, c5, _⟩ := hbg
 have HOFC := gI (show ∀ W, Keeps [] w5 W → ∀ i, i < N → W.cell? ⟨ob, i, none⟩ = some (.int .i64 (of.getD i 0)) from fun W k i hi => bi_cell (HBG.out W k).ofs i (by rw [HOL.out]; exact hi))
 have HOJ := gI (show ∀ i, of.getD i 0 < J by rw [HKK.out]; exact HSPP.out.hof)
 have HCBL := gI (show w5.heap.size ≤ cb by rw [HCB.out]; exact HK8.out.size)
 have HW10 := gI (show ∀ W, Keeps [cb] w10 W → Keeps [] w5 W ∧ W.heap[cb + 1]? = some (.cells #[.slice (some ⟨cb, 0, none⟩) N N, .int .i64 fac, .int .i64 0] 30 (0, 0)) ∧ SliceAt W 3 1 (some kb) J J (bi rk) from fun W k =>
  ⟨HK10.out.after k (fun b hb => .inr (by simp at hb; subst hb; exact HCBL.out)), k.heap HB10.out (by simp), hrs.keep k (fun g e => by cases e; have := HCL.out; simp; omega)⟩)
 clear hrk hrs hkbn hk10
 go_upto_region 16 with fail
 clear c5
 go_loopw [68] (fun i wr => ∃ k : Nat, k ≤ N ∧ i = .int .i64 k ∧ Keeps [cb] w10 wr ∧ SliceAt wr 3 1 (some cb) N N (bi (crK of rk N k))) (fun i _ => N - (intOf i).toNat)
 case atStart => exact ⟨0, Nat.zero_le _, rfl, Keeps.refl _ _, HS10.out⟩
 case round =>
  obtain ⟨k, hk, rfl, hkp, hs⟩ := hrel
  have HKP := gI hkp
  have HS := gI hs
  clear hkp hs
  obtain ⟨hw5, hbx, hrs⟩ := HW10.out wr HKP.out
  by_cases hkN : k < N
  ·have hki : (k : Int) < (N : Int) := by omega
   have hw1 : IntKind.i64.wrap ((k : Int) + 1) = (k : Int) + 1 := IntWalk.i64_in _ (by omega)
   have oK := HOFC.out wr hw5 k hkN
   have hoJ := HOJ.out k
   have HE := gI (show crK of rk N (k + 1) = if 0 ≤ of.getD k 0 then (crK of rk N k).set k (rk.getD (of.getD k 0).toNat 0) else crK of rk N k from rfl)
   have x0 : wr.cell? ⟨cb + 1, 0, none⟩ = some (.slice (some ⟨cb, 0, none⟩) N N) := by simp [World.cell?, hbx]
   have hcl := crK_length of rk N k
   obtain ⟨a, ha⟩ : ∃ a, a = of.getD k 0 := ⟨_, rfl⟩
   obtain ⟨cr, hcr⟩ : ∃ c, c = crK of rk N k := ⟨_, rfl⟩
   rw [← ha] at oK hoJ HE
   rw [← hcr] at HE HS hcl
   clear ha hcr
   by_cases h0 : 0 ≤ a
   ·obtain ⟨A, rfl⟩ := Int.eq_ofNat_of_zero_le h0
    have hAJ : A < J := by omega
    rw [if_pos h0, Int.toNat_natCast] at HE
    have rA := bi_cell hrs A (by rw [HRL.out]; exact hAJ)
    have cK := bi_cell HS.out k (by rw [hcl]; exact hkN)
    have cf := HS.out.fz k
    obtain ⟨v, hv⟩ : ∃ v, v = rk.getD A 0 := ⟨_, rfl⟩
    rw [← hv] at rA HE
    obtain ⟨X, hX⟩ : ∃ X, X = (wr.setCell ⟨cb, k, none⟩ (.int .i64 v)).drew := ⟨_, rfl⟩
    have HKX := gI (show Keeps [cb] w10 X from HKP.out.trans (by rw [hX]; exact ((Keeps.refl [cb] wr).setCell (by simp) _).drew))
    have HSX := gI (show SliceAt X 3 1 (some cb) N N (bi (crK of rk N (k + 1))) by
     have h := (HS.out.set k (.int .i64 v)).keep ((Keeps.refl [] _).drew) (by simp)
     rw [hX, HE.out]
     simpa [bi, List.map_set] using h)
    have HX := gI hX
    clear hX hv hw5 hbx hrs hcl
    go_upto_region 19 with fail
    go_region
    rw [← HX.out]
    go_wp2
    go_roundw
    case rel => exact ⟨k + 1, by omega, by go_num, HKX.out, HSX.out⟩
    case measure => simp [intOf]; omega
   ·rw [if_neg h0] at HE
    clear hw5 hbx hrs hcl
    go_wp2
    go_roundw
    case rel => exact ⟨k + 1, by omega, by go_num, HKP.out, by rw [HE.out]; exact HS.out⟩
    case measure => simp [intOf]; omega
  ·obtain rfl : k = N := by omega
   have hgb := HBG.out wr hw5
   have HCRB := gI (show ∀ i, 0 ≤ (crK of rk k k).getD i 0 ∧ (crK of rk k k).getD i 0 ≤ 1000000 from fun i => crK_bd (B := 1000000) HRB.out k i)
   have HDG := gI (degree_any wr gb x rb ob (some pb) pc (ngRows x) of q hgb cb (crK of rk k k) (by rw [← HNN.out]; exact HS.out) (by rw [HOL.out, HNN.out]) (by rw [crK_length, HNN.out]) (by rw [← HNN.out]; exact h64) HSPP.out.hof HCRB.out)
   rw [← HNN.out] at HDG
   obtain ⟨dg, hdg⟩ : ∃ d, d = degreeP of (crK of rk k k) q := ⟨_, rfl⟩
   rw [← hdg] at HDG
   have HDGE := gI hdg
   have x0 : wr.cell? ⟨cb + 1, 0, none⟩ = some (.slice (some ⟨cb, 0, none⟩) k k) := by simp [World.cell?, hbx]
   have x2 : wr.cell? ⟨cb + 1, 2, none⟩ = some (.int .i64 0) := by simp [World.cell?, hbx]
   have xf : wr.frozen? ⟨cb + 1, 2, none⟩ = false := by simp [World.frozen?, hbx]
   obtain ⟨X, hX⟩ : ∃ X, X = wr.setCell ⟨cb + 1, 2, none⟩ (.int .i64 dg) := ⟨_, rfl⟩
   have kX : Keeps [cb + 1] wr X := by rw [hX]; exact (Keeps.refl [cb + 1] wr).setCell (by simp) _
   have hXH : X.heap[cb + 1]? = some (.cells #[.slice (some ⟨cb, 0, none⟩) k k, .int .i64 fac, .int .i64 dg] 30 (0, 0)) := by
    have h := heap_setCell_same wr (cb + 1) 2 _ _ (.int .i64 dg) hbx
    rw [hX, h]
    simp
   have hBc : B + 1 < w5.heap.size := by
    have h1 := lt_of_block HB2.out
    have h2 := HK5.out.size
    omega
   have hB2 := kX.heap ((HK5.out.trans hw5).heap HB2.out (by simp)) (by have := HCBL.out; simp; omega)
   have e0 : X.cell? ⟨cb + 1, 0, none⟩ = some (.slice (some ⟨cb, 0, none⟩) k k) := by simp [World.cell?, hXH]
   have e1 : X.cell? ⟨cb + 1, 1, none⟩ = some (.int .i64 fac) := by simp [World.cell?, hXH]
   have e2 : X.cell? ⟨cb + 1, 2, none⟩ = some (.int .i64 dg) := by simp [World.cell?, hXH]
   have g0 : X.cell? ⟨B + 1, 0, none⟩ = some (.slice none 0 0) := by simp [World.cell?, hB2]
   have g1 : X.cell? ⟨B + 1, 1, none⟩ = some (.int .i64 0) := by simp [World.cell?, hB2]
   have g2 : X.cell? ⟨B + 1, 2, none⟩ = some (.int .i64 0) := by simp [World.cell?, hB2]
   have gf : ∀ j, X.frozen? ⟨B + 1, j, none⟩ = false := fun j => by simp [World.frozen?, hB2]
   have gf0 := gf 0
   have gf1 := gf 1
   have gf2 := gf 2
   have HBH := gI hB2
   have HKX := gI kX
   have HSX := gI (HS.out.keep kX (fun g e => by cases e; simp))
   have HW5 := gI hw5
   have HX := gI hX
   clear hgb hdg hX kX hXH hB2 gf hbx hrs hw5
   go_upto_region 21 with fail
   go_wp2_with fail
   with_reducible refine Calls.mono HDG.out ?_
   rintro e w12 ⟨rfl, rfl⟩
   go_upto_region 22 with fail
   rw [← HX.out]
   clear x0 x2 xf
   obtain ⟨X1, hX1⟩ : ∃ X1, X1 = X.setCell ⟨B + 1, 0, none⟩ (.slice (some ⟨cb, 0, none⟩) k k) := ⟨_, rfl⟩
   obtain ⟨X2, hX2⟩ : ∃ X2, X2 = X1.setCell ⟨B + 1, 1, none⟩ (.int .i64 fac) := ⟨_, rfl⟩
   obtain ⟨X3, hX3⟩ : ∃ X3, X3 = (X2.setCell ⟨B + 1, 2, none⟩ (.int .i64 dg)).drew := ⟨_, rfl⟩
   have h1 : X1.heap[B + 1]? = some (.cells #[.slice (some ⟨cb, 0, none⟩) k k, .int .i64 0, .int .i64 0] 30 (0, 0)) := by
    rw [hX1, heap_setCell_same X (B + 1) 0 _ _ _ HBH.out]; simp
   have h2 : X2.heap[B + 1]? = some (.cells #[.slice (some ⟨cb, 0, none⟩) k k, .int .i64 fac, .int .i64 0] 30 (0, 0)) := by
    rw [hX2, heap_setCell_same X1 (B + 1) 1 _ _ _ h1]; simp
   have h3 : X3.heap[B + 1]? = some (.cells #[.slice (some ⟨cb, 0, none⟩) k k, .int .i64 fac, .int .i64 dg] 30 (0, 0)) := by
    rw [hX3]
    show (X2.setCell _ _).heap[B + 1]? = _
    rw [heap_setCell_same X2 (B + 1) 2 _ _ _ h2]; simp
   have kk : Keeps [B + 1] X X3 := by
    rw [hX3, hX2, hX1]
    exact ((((Keeps.refl [B + 1] X).setCell (by simp) _).setCell (by simp) _).setCell (by simp) _).drew
   have HV := gI h3
   have HFIN := gI (show SliceAt X3 3 1 (some cb) k k (bi (crK of rk k k)) from HSX.out.keep kk (fun g e => by cases e; have := HCBL.out; simp; omega))
   have HKF := gI (show Keeps [] w X3 from by
    have a1 : Keeps [] w X := (HKY.out.trans (HK5.out.trans HW5.out)).after HKX.out (fun b hb => .inr (by have h1 := HCBL.out; have h2 := HK5.out.size; have h3 := HKY.out.size; simp at hb; omega))
    exact a1.after kk (fun b hb => .inr (by have := HB.out; simp at hb; omega)))
   have HX1 := gI hX1
   have HX2 := gI hX2
   have HX3 := gI hX3
   clear hX1 hX2 hX3 h1 h2 h3 kk
   go_region
   rw [← HX1.out, ← HX2.out, ← HX3.out]
   go_wp2
   refine bodyPost_ret (res_tmp_row_tmp rfl _ _ (B + 1) 30 #[.slice (some ⟨cb, 0, none⟩) k k, .int .i64 fac, .int .i64 dg] (0, 0) _ rfl HV.out Tryz.underlying30 rfl sizeCe) rfl ?_
   rw [HQ.out]
   have e1 : rkP x F ps = crK of rk k k := HRK.out
   refine ⟨x, ps, gb, cb, HGX.out, HRAW.out, ?_, ?_, HKF.out⟩
   ·rw [← HOFE.out, ← HQE.out, e1, ← HFA.out, ← HDGE.out, ← HNN.out]
    rfl
   ·rw [e1, ← HNN.out]
    exact HFIN.out
end Go.Proofs.YtkekenaamnhbhaaGreat
