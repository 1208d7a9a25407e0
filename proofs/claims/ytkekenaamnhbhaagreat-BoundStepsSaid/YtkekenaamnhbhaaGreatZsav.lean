/- Part 22 of the proof. No condition: every lemma says its own. -/
import Derived.Test.YtkekenaamnhbhaaGreatZsan
namespace Go.Proofs.YtkekenaamnhbhaaGreat
open Go.RowKit Go.BigFrame
set_option maxRecDepth 100000
set_option maxHeartbeats 16000000
theorem BN.base {W0 Y w' : World} {gb : Nat} {x : Gr} {rb ob : Nat} {pa : Option Nat} {pc : Nat} {rows : List Nat} {of : List Int} {ps : List Pt} (h : BN Y w' gb x rb ob pa pc rows of ps) (k : Keeps [] W0 Y) (g : GrIn W0 x) : BN W0 w' gb x rb ob pa pc rows of ps :=
 ⟨h.bg, k.trans h.k, g, Nat.le_trans k.size h.ng, Nat.le_trans k.size h.nr, Nat.le_trans k.size h.no, fun pb e => ⟨Nat.le_trans k.size (h.np pb e).1, (h.np pb e).2⟩, h.ne, h.nn⟩
theorem three_alloc (Y : World) (o1 o2 o3 : Obj) : (((Y.alloc o1).alloc o2).alloc o3).drew.heap[Y.heap.size]? = some o1 ∧ (((Y.alloc o1).alloc o2).alloc o3).drew.heap[Y.heap.size + 1]? = some o2 ∧ (((Y.alloc o1).alloc o2).alloc o3).drew.heap[Y.heap.size + 2]? = some o3 ∧ Keeps [] Y (((Y.alloc o1).alloc o2).alloc o3).drew := by
 have k2 : Keeps [] (Y.alloc o1) ((Y.alloc o1).alloc o2) := Keeps.a1 _ _
 have k3 : Keeps [] ((Y.alloc o1).alloc o2) (((Y.alloc o1).alloc o2).alloc o3).drew := (Keeps.a1 _ _).drew
 have s1 : (Y.alloc o1).heap.size = Y.heap.size + 1 := by simp
 have s2 : ((Y.alloc o1).alloc o2).heap.size = Y.heap.size + 2 := by simp
 have h2 := heap_alloc_new (Y.alloc o1) o2
 rw [s1] at h2
 have h3 := heap_alloc_new ((Y.alloc o1).alloc o2) o3
 rw [s2] at h3
 exact ⟨k3.heap (k2.heap (heap_alloc_new Y o1) (by simp)) (by simp), k3.heap h2 (by simp), h3, ((Keeps.a1 _ _).trans k2).trans k3⟩
theorem BN.made {Y W : World} {x : Gr} {gb rb ob N : Nat} (hN : N = x.nodes.length) (h64 : N ≤ 64) (hg : GrIn Y x) (k : Keeps [] Y W) (h1 : W.heap[rb]? = some (.cells (Array.replicate N (.int .u64 0)) 76 (0, 0))) (h2 : W.heap[ob]? = some (.cells (Array.replicate N (.int .i64 0)) 3 (0, 0)))
  (h3 : W.heap[gb]? = some (.cells (bgRow x rb ob none 0 0).toArray 99 (0, 0))) (n1 : Y.heap.size ≤ gb) (n2 : Y.heap.size ≤ rb) (n3 : Y.heap.size ≤ ob) (ne : gb ≠ rb ∧ gb ≠ ob ∧ rb ≠ ob) : BN Y W gb x rb ob none 0 (row0 N 0) (of0 N 0) [] := by
 have s1 := SliceAt.of_row (size := 1) (c := N) h1 (by simp) (by unfold maxLen; omega)
 have s2 := SliceAt.of_row (size := 1) (c := N) h2 (by simp) (by unfold maxLen; omega)
 refine ⟨⟨hg.keep k, h3, ?_, ?_, SliceAt.nil _ _ _, (fun p hp => by cases hp)⟩, k, hg, n1, n2, n3, (fun pb e => by cases e), ne, (fun p hp => by cases hp)⟩
 ·rw [← hN]; simpa [bu, row0] using s1
 ·rw [← hN]; simpa [bi, of0] using s2
theorem built_bg (a1 a2 a3 a4 a5 a6 : Option Addr) (n1 n2 n3 n4 n5 n6 c1 c2 c3 c4 c5 c6 : Nat) : Tryz.prog.built 99 [(0, .agg #[.slice a1 n1 c1, .slice a2 n2 c2, .slice a3 n3 c3, .slice a4 n4 c4]), (1, .slice a5 n5 c5), (2, .slice a6 n6 c6)] =
  some #[.slice a1 n1 c1, .slice a2 n2 c2, .slice a3 n3 c3, .slice a4 n4 c4, .slice a5 n5 c5, .slice a6 n6 c6, .slice none 0 0] := by kernel_rfl
theorem infoU64 : (Tryz.prog.info? 76).map (fun i => (i.zero, i.size, i.bytes)) = some (some (.int .u64 0), 1, 8) := by kernel_rfl
def plen (w : World) (gb : Nat) : Nat := match w.cell? ⟨gb, 6, none⟩ with
 | some (.slice _ n _) => n
 | _ => 0
theorem plen_of {W0 w : World} {gb : Nat} {x : Gr} {rb ob : Nat} {pa : Option Nat} {pc : Nat} {rows : List Nat} {of : List Int} {ps : List Pt} (h : BN W0 w gb x rb ob pa pc rows of ps) : plen w gb = ps.length := by
 unfold plen
 rw [(bg_cells h.bg.box).2.2.2]
 rfl
def dn (v : Value) : Nat := match v with
 | .bool true => 0
 | _ => 1
def ngRows (x : Gr) : List Nat := warK x.nodes.length (edgR x.edges (row0 x.nodes.length x.nodes.length) x.edges.length) x.nodes.length
def ngRea (x : Gr) : Nat := reaK x.first (ngRows x) x.nodes.length
def ngPas (x : Gr) (j : Nat) : Ps := pasK (ngRows x) (ngRea x) x.nodes.length (of0 x.nodes.length x.nodes.length) j
structure NgPre (x : Gr) (F : Nat) : Prop where
 hN : x.nodes.length ≤ 64
 hf : x.first.length = x.nodes.length
 hel : x.edges.length ≤ 1000000
 hE : ∀ i, i < x.edges.length → (0 ≤ (x.edges.getD i e40).fr ∧ (x.edges.getD i e40).fr < x.nodes.length) ∧ (0 ≤ (x.edges.getD i e40).tt ∧ (x.edges.getD i e40).tt < x.nodes.length)
 f1 : (ngPas x (F + 1)).fin = true
 f2 : ∀ j, j ≤ F → (ngPas x j).fin = false
 hF : F ≤ 1000
 des : DesPre x (ngPas x (F + 1)).of (ngPas x (F + 1)).L.length
def NgOut (W0 : World) (x : Gr) (F : Nat) (e : Ending) (w' : World) : Prop :=
 ∃ gb rb ob pa pc ps, e = .returned (.pointer (some ⟨gb, 0, none⟩)) ∧ Raw ps (ngPas x (F + 1)).L ∧ BN W0 w' gb x rb ob pa pc (ngRows x) (ngPas x (F + 1)).of (desP (ngPas x (F + 1)).of x.edges x.nodes.length ps)
set_option linter.unusedSimpArgs false in
theorem newGraph_any (hd : DesOK) (w : World) (x : Gr) (F : Nat) (hx : GrIn w x) (ok : NgPre x F) :
  Calls Tryz.prog 39 #[x.val] w (NgOut w x F) := by
 obtain ⟨iu, hiu, huz, hus, hub⟩ := infoParts infoU64
 obtain ⟨ii, hii, hiz, his, hib⟩ := infoParts infoInt
 obtain ⟨B, hB⟩ : ∃ B, B = w.heap.size := ⟨_, rfl⟩
 obtain ⟨Y, hY⟩ : ∃ Y, Y = w.alloc (.cells x.row.toArray 89) := ⟨_, rfl⟩
 have hkY : Keeps [] w Y := by rw [hY]; exact Keeps.a1 _ _
 have hb : Y.heap[B]? = some (.cells x.row.toArray 89 (0, 0)) := by rw [hY, hB]; exact heap_alloc_new w _
 have hBY : B < Y.heap.size := lt_of_block hb
 obtain ⟨b0, b1, b2, b3⟩ := row_cells4 hb
 have h64 := ok.hN
 have HX := gI (hx.keep hkY)
 have HX00 := gI hx
 have HY := gI (show w.alloc (.cells #[.slice x.ca x.cls.length x.cc, .slice x.na x.nodes.length x.nc, .slice x.fa x.first.length x.fc, .slice x.ea x.edges.length x.ec] 89) = Y by rw [hY]; rfl)
 have HB := gI hB
 have HKY := gI hkY
 have HBY := gI hBY
 have OK := gI ok
 have HD := gI hd
 obtain ⟨P, hP⟩ : ∃ P, P = NgOut w x F := ⟨_, rfl⟩
 rw [← hP]
 have HP := gI hP
 have HM1 : ∀ W : World, (Instr.makeSlice 97 (.int .i64 x.nodes.length) (.int .i64 x.nodes.length)).run Tryz.prog W = .ok (.slice (some ⟨W.heap.size, 0, none⟩) x.nodes.length x.nodes.length) (W.alloc (.cells (List.replicate x.nodes.length (.int .u64 0)).toArray 76)) :=
  fun W => run_make_one Tryz.underlying97 hiu huz hus hub rfl W x.nodes.length (by omega)
 have HM2 : ∀ W : World, (Instr.makeSlice 22 (.int .i64 x.nodes.length) (.int .i64 x.nodes.length)).run Tryz.prog W = .ok (.slice (some ⟨W.heap.size, 0, none⟩) x.nodes.length x.nodes.length) (W.alloc (.cells (List.replicate x.nodes.length (.int .i64 0)).toArray 3)) :=
  fun W => run_make_one Tryz.underlying22 hii hiz his hib rfl W x.nodes.length (by omega)
 simp only [Gr.val]
 obtain ⟨x0, hx0⟩ : ∃ x0, x0 = x := ⟨_, rfl⟩
 rw [← hx0] at HX HX00 OK HP
 have HX0 := gI hx0
 obtain ⟨N, hN⟩ : ∃ N, N = x.nodes.length := ⟨_, rfl⟩
 rw [← hN] at HM1 HM2 HY b1 h64 ⊢
 have HN := gI (show N = x0.nodes.length by rw [hx0]; exact hN)
 obtain ⟨L, hL⟩ : ∃ L, L = x.edges.length := ⟨_, rfl⟩
 rw [← hL] at HY b3 ⊢
 have HL := gI (show L = x0.edges.length by rw [hx0]; exact hL)
 obtain ⟨FL, hFL⟩ : ∃ L, L = x.first.length := ⟨_, rfl⟩
 rw [← hFL] at HY b2 ⊢
 have HFL := gI (show FL = N by rw [HN.out, ← OK.out.hf, hx0]; exact hFL)
 clear hx ok hd hY hB hkY hb hBY hiu huz hus hub hii hiz his hib hP hx0 hN hL hFL
 go_enter Tryz.func39, Tryz.ntmps39
 go_upto_region 1 with fail
 rw [HY.out, ← HB.out]
 go_cut [3] (fun s3 wx => ∃ gb rb ob : Nat, s3 = .pointer (some ⟨gb, 0, none⟩) ∧ BN Y wx gb x0 rb ob none 0 (row0 N 0) (of0 N 0) [])
 case first => as_aux_lemma =>
  refine wp_region_held_drew (S := fun w' => w'.cell? ⟨B, 0, none⟩ = some (.slice x.ca x.cls.length x.cc) ∧ w'.cell? ⟨B, 1, none⟩ = some (.slice x.na N x.nc) ∧ w'.cell? ⟨B, 2, none⟩ = some (.slice x.fa FL x.fc) ∧ w'.cell? ⟨B, 3, none⟩ = some (.slice x.ea L x.ec)) (by kernel_rfl) ⟨b0, b1, b2, b3⟩ (fun hHeld => ?_)
  refine take_on (i := 0) (v := ?_) rfl (by kernel_rfl) (by kernel_rfl) (by kernel_rfl) (fun _ _ _ h => h) (by rfl) (by assumption) ?_ ?_
  rotate_left
  ·((intro w hSw; (try dsimp only at hSw); go_simp <;> with_reducible rfl); done)
  try simp only [Act.put, List.setIfInBounds_toArray, List.set_cons_zero, List.set_cons_succ]
  refine take_on (i := 1) (v := ?_) rfl (by kernel_rfl) (by kernel_rfl) (by kernel_rfl) (fun _ _ _ h => h) (by rfl) (by assumption) ?_ ?_
  rotate_left
  ·((intro w hSw; (try dsimp only at hSw); go_simp <;> with_reducible rfl); done)
  try simp only [Act.put, List.setIfInBounds_toArray, List.set_cons_zero, List.set_cons_succ]
  refine take_on (i := 2) (v := ?_) rfl (by kernel_rfl) (by kernel_rfl) (by kernel_rfl) (fun _ _ _ h => h) (by rfl) (by assumption) ?_ ?_
  rotate_left
  ·((intro w hSw; (try dsimp only at hSw); go_simp <;> with_reducible rfl); done)
  try simp only [Act.put, List.setIfInBounds_toArray, List.set_cons_zero, List.set_cons_succ]
  refine take_on (i := 3) (v := ?_) rfl (by kernel_rfl) (by kernel_rfl) (by kernel_rfl) (fun _ _ _ h => h) (by rfl) (by assumption) ?_ ?_
  rotate_left
  ·((intro w hSw; (try dsimp only at hSw); go_simp <;> with_reducible rfl); done)
  try simp only [Act.put, List.setIfInBounds_toArray, List.set_cons_zero, List.set_cons_succ]
  refine take_on (i := 5) (v := ?_) rfl (by kernel_rfl) (by kernel_rfl) (by kernel_rfl) (fun _ _ _ h => h) (by rfl) (by assumption) ?_ ?_
  rotate_left
  ·((intro w hSw; (try dsimp only at hSw); go_simp <;> with_reducible rfl); done)
  try simp only [Act.put, List.setIfInBounds_toArray, List.set_cons_zero, List.set_cons_succ]
  refine take_on (i := 6) (v := ?_) rfl (by kernel_rfl) (by kernel_rfl) (by kernel_rfl) (fun _ _ _ h => h) (by rfl) (by assumption) ?_ ?_
  rotate_left
  ·((intro w hSw; (try dsimp only at hSw); go_simp <;> with_reducible rfl); done)
  try simp only [Act.put, List.setIfInBounds_toArray, List.set_cons_zero, List.set_cons_succ]
  refine take_on (i := 7) (v := ?_) rfl (by kernel_rfl) (by kernel_rfl) (by kernel_rfl) (fun _ _ _ h => h) (by rfl) (by assumption) ?_ ?_
  rotate_left
  ·((intro w hSw; (try dsimp only at hSw); go_simp <;> with_reducible rfl); done)
  try simp only [Act.put, List.setIfInBounds_toArray, List.set_cons_zero, List.set_cons_succ]
  refine branch_two (i := 4) (j := 8) rfl rfl (by kernel_rfl) (by rfl) (by rfl) (fun K hK => ?_) (fun K hK => ?_)
  ·go_simp
   have K1 : Keeps [] Y (Y.alloc (.cells (Array.replicate N (.int .u64 0)) 76)).drew := ((Keeps.refl [] Y).alloc _).drew
   have K2 : Keeps [] Y ((Y.alloc (.cells (Array.replicate N (.int .u64 0)) 76)).alloc (.cells (Array.replicate N (.int .i64 0)) 3)).drew := (((Keeps.refl [] Y).alloc _).alloc _).drew
   refine hK.out _ _ (⟨K1.cell b0 (by simp), K1.cell b1 (by simp), K1.cell b2 (by simp), K1.cell b3 (by simp)⟩) (fun hHeld => ?_)
   clear hK K
   try simp only [Act.put, List.setIfInBounds_toArray, List.set_cons_zero, List.set_cons_succ]
   refine branch_one (i := 8) rfl (by kernel_rfl) (by rfl) (fun K hK => ?_)
   go_simp
   refine hK.out _ _ (⟨K2.cell b0 (by simp), K2.cell b1 (by simp), K2.cell b2 (by simp), K2.cell b3 (by simp)⟩) (fun hHeld => ?_)
   clear hK K
   try simp only [Act.put, List.setIfInBounds_toArray, List.set_cons_zero, List.set_cons_succ]
   refine take_on (i := 9) (v := .agg #[.slice x.ca x.cls.length x.cc, .slice x.na N x.nc, .slice x.fa FL x.fc, .slice x.ea L x.ec, .slice (some ⟨Y.heap.size, 0, none⟩) N N, .slice (some ⟨Y.heap.size + 1, 0, none⟩) N N, .slice none 0 0]) rfl (by kernel_rfl) (by kernel_rfl) (by kernel_rfl) (fun _ _ _ h => h) (by rfl) (by assumption) ?_ ?_
   ·(intro w hSw; exact exec_build (parts := [(0, .tmp 14), (1, .tmp 18), (2, .tmp 22)]) rfl (built_bg _ _ _ _ _ _ _ _ _ _ _ _ _ _ _ _ _ _))
   try simp only [Act.put, List.setIfInBounds_toArray, List.set_cons_zero, List.set_cons_succ]
   refine branch_one (i := 10) rfl (by kernel_rfl) (by rfl) (fun K hK => ?_)
   go_simp
   have hrow : bgRow x0 Y.heap.size (Y.heap.size + 1) none 0 0 = [.slice x.ca x.cls.length x.cc, .slice x.na N x.nc, .slice x.fa FL x.fc, .slice x.ea L x.ec, .slice (some ⟨Y.heap.size, 0, none⟩) N N, .slice (some ⟨(Y.heap.size + 1), 0, none⟩) N N, .slice none 0 0] := by rw [HFL.out, HN.out, HL.out, ← HX0.out]; simp [bgRow, Gr.row, sv, OK.out.hf]
   obtain ⟨g1, g2, g3, g4⟩ := three_alloc Y (.cells (Array.replicate N (.int .u64 0)) 76) (.cells (Array.replicate N (.int .i64 0)) 3) (.cells (bgRow x0 Y.heap.size (Y.heap.size + 1) none 0 0).toArray 99)
   have HMD := gI (BN.made HN.out h64 HX.out g4 g1 g2 g3 (by omega) (by omega) (by omega) (by omega))
   rw [hrow] at g4 HMD
   refine hK.out _ _ (⟨g4.cell b0 (by simp), g4.cell b1 (by simp), g4.cell b2 (by simp), g4.cell b3 (by simp)⟩) (fun hHeld => ?_)
   clear hK K
   try simp only [Act.put, List.setIfInBounds_toArray, List.set_cons_zero, List.set_cons_succ]
   refine take_on (i := 11) (v := ?_) rfl (by kernel_rfl) (by kernel_rfl) (by kernel_rfl) (fun _ _ _ h => h) (by rfl) (by assumption) ?_ ?_
   rotate_left
   ·((intro w hSw; (try dsimp only at hSw); go_simp <;> with_reducible rfl); done)
   try simp only [Act.put, List.setIfInBounds_toArray, List.set_cons_zero, List.set_cons_succ]
   refine wpAnyH_done (by kernel_rfl) ?_ _
   go_wp2
   go_meet
   exact ⟨Y.heap.size + 2, Y.heap.size, Y.heap.size + 1, rfl, HMD.out⟩
  ·go_simp
   have K1 : Keeps [] Y (Y.alloc (.cells (Array.replicate N (.int .i64 0)) 3)).drew := ((Keeps.refl [] Y).alloc _).drew
   have K2 : Keeps [] Y ((Y.alloc (.cells (Array.replicate N (.int .i64 0)) 3)).alloc (.cells (Array.replicate N (.int .u64 0)) 76)).drew := (((Keeps.refl [] Y).alloc _).alloc _).drew
   refine hK.out _ _ (⟨K1.cell b0 (by simp), K1.cell b1 (by simp), K1.cell b2 (by simp), K1.cell b3 (by simp)⟩) (fun hHeld => ?_)
   clear hK K
   try simp only [Act.put, List.setIfInBounds_toArray, List.set_cons_zero, List.set_cons_succ]
   refine branch_one (i := 4) rfl (by kernel_rfl) (by rfl) (fun K hK => ?_)
   go_simp
   refine hK.out _ _ (⟨K2.cell b0 (by simp), K2.cell b1 (by simp), K2.cell b2 (by simp), K2.cell b3 (by simp)⟩) (fun hHeld => ?_)
   clear hK K
   try simp only [Act.put, List.setIfInBounds_toArray, List.set_cons_zero, List.set_cons_succ]
   refine take_on (i := 9) (v := .agg #[.slice x.ca x.cls.length x.cc, .slice x.na N x.nc, .slice x.fa FL x.fc, .slice x.ea L x.ec, .slice (some ⟨Y.heap.size + 1, 0, none⟩) N N, .slice (some ⟨Y.heap.size, 0, none⟩) N N, .slice none 0 0]) rfl (by kernel_rfl) (by kernel_rfl) (by kernel_rfl) (fun _ _ _ h => h) (by rfl) (by assumption) ?_ ?_
   ·(intro w hSw; exact exec_build (parts := [(0, .tmp 14), (1, .tmp 18), (2, .tmp 22)]) rfl (built_bg _ _ _ _ _ _ _ _ _ _ _ _ _ _ _ _ _ _))
   try simp only [Act.put, List.setIfInBounds_toArray, List.set_cons_zero, List.set_cons_succ]
   refine branch_one (i := 10) rfl (by kernel_rfl) (by rfl) (fun K hK => ?_)
   go_simp
   have hrow : bgRow x0 (Y.heap.size + 1) Y.heap.size none 0 0 = [.slice x.ca x.cls.length x.cc, .slice x.na N x.nc, .slice x.fa FL x.fc, .slice x.ea L x.ec, .slice (some ⟨(Y.heap.size + 1), 0, none⟩) N N, .slice (some ⟨Y.heap.size, 0, none⟩) N N, .slice none 0 0] := by rw [HFL.out, HN.out, HL.out, ← HX0.out]; simp [bgRow, Gr.row, sv, OK.out.hf]
   obtain ⟨g1, g2, g3, g4⟩ := three_alloc Y (.cells (Array.replicate N (.int .i64 0)) 3) (.cells (Array.replicate N (.int .u64 0)) 76) (.cells (bgRow x0 (Y.heap.size + 1) Y.heap.size none 0 0).toArray 99)
   have HMD := gI (BN.made HN.out h64 HX.out g4 g2 g1 g3 (by omega) (by omega) (by omega) (by omega))
   rw [hrow] at g4 HMD
   refine hK.out _ _ (⟨g4.cell b0 (by simp), g4.cell b1 (by simp), g4.cell b2 (by simp), g4.cell b3 (by simp)⟩) (fun hHeld => ?_)
   clear hK K
   try simp only [Act.put, List.setIfInBounds_toArray, List.set_cons_zero, List.set_cons_succ]
   refine take_on (i := 11) (v := ?_) rfl (by kernel_rfl) (by kernel_rfl) (by kernel_rfl) (fun _ _ _ h => h) (by rfl) (by assumption) ?_ ?_
   rotate_left
   ·((intro w hSw; (try dsimp only at hSw); go_simp <;> with_reducible rfl); done)
   try simp only [Act.put, List.setIfInBounds_toArray, List.set_cons_zero, List.set_cons_succ]
   refine wpAnyH_done (by kernel_rfl) ?_ _
   go_wp2
   go_meet
   exact ⟨Y.heap.size + 2, Y.heap.size + 1, Y.heap.size, rfl, HMD.out⟩
 case rest =>
  obtain ⟨gb, rb, ob, rfl, hb⟩ := hcut
  have HC := gI (show ∀ (W : World) pa pc rows of ps, BN Y W gb x0 rb ob pa pc rows of ps → (W.cell? ⟨gb, 4, none⟩ = some (.slice (some ⟨rb, 0, none⟩) N N) ∧ W.cell? ⟨gb, 5, none⟩ = some (.slice (some ⟨ob, 0, none⟩) N N)) ∧ W.cell? ⟨B, 2, none⟩ = some (.slice x.fa FL x.fc) ∧ W.cell? ⟨B, 3, none⟩ = some (.slice x.ea L x.ec) from fun W pa pc rows of ps h => by
   have h1 := bg_cells h.bg.box
   rw [HN.out]
   exact ⟨⟨h1.2.1, h1.2.2.1⟩, h.k.cell b2 (by simp), h.k.cell b3 (by simp)⟩)
  obtain ⟨⟨c4, c5⟩, c2, c3⟩ := HC.out wc _ _ _ _ _ hb
  have HB0 := gI hb
  clear b0 b1 b2 b3 hb HM1 HM2
  go_upto_region 3 with fail
  clear c2 c3 c4 c5
  go_loopw [30] (fun i wr => ∃ k : Nat, k ≤ N ∧ i = .int .i64 k ∧ BN Y wr gb x0 rb ob none 0 (row0 N k) (of0 N k) []) (fun i _ => N - (intOf i).toNat)
  case atStart => exact ⟨0, Nat.zero_le _, rfl, HB0.out⟩
  case round =>
   obtain ⟨k, hk, rfl, hb⟩ := hrel
   obtain ⟨⟨c4, c5⟩, c2, c3⟩ := HC.out wr _ _ _ _ _ hb
   have HBK := gI hb
   clear hb
   by_cases hlt : k < N
   ·have hki : (k : Int) < (N : Int) := by omega
    have hw1 : IntKind.i64.wrap ((k : Int) + 1) = (k : Int) + 1 := IntWalk.i64_in _ (by omega)
    have h3 : ((2 ^ k : Nat) : Int) = (2 : Int) ^ k := by norm_cast
    have h1 : IntKind.u64.wrap ((2 : Int) ^ k) = ((2 ^ k : Nat) : Int) := by
     have := u64_nat (2 ^ k) (two_pow_lt (by omega))
     rw [← this]; norm_cast
    have u0 := bu_cell HBK.out.bg.rw k (by rw [(row0_ok N h64 k hk).2]; exact hlt)
    have uf := HBK.out.bg.rw.fz k
    have v0 := bi_cell HBK.out.bg.ofs k (by rw [of0_length]; exact hlt)
    have vf := HBK.out.bg.ofs.fz k
    go_upto_region 5 with fail
    go_region
    obtain ⟨X, hX⟩ : ∃ X, X = (wr.setCell ⟨rb, k, none⟩ (.int .u64 ((2 : Int) ^ k))).drew := ⟨_, rfl⟩
    have HBX := gI (show BN Y X gb x0 rb ob none 0 (row0 N (k + 1)) (of0 N k) [] by rw [hX, ← h3]; exact (HBK.out.setRow k (2 ^ k)).keep (Keeps.refl [] _).drew)
    rw [← hX]
    obtain ⟨⟨d4, d5⟩, _, _⟩ := HC.out X _ _ _ _ _ HBX.out
    have v0 := bi_cell HBX.out.bg.ofs k (by rw [of0_length]; exact hlt)
    have vf := HBX.out.bg.ofs.fz k
    have HBZ := gI (show BN Y (X.setCell ⟨ob, k, none⟩ (.int .i64 (-1))) gb x0 rb ob none 0 (row0 N (k + 1)) (of0 N (k + 1)) [] from HBX.out.setOf k (-1))
    clear hX c4 c5 u0 uf
    go_wp2
    go_roundw
    case rel => exact ⟨k + 1, by omega, by go_num, HBZ.out⟩
    case measure => simp [intOf]; omega
   ·obtain rfl : k = N := by omega
    have HB1 := gI (show BN Y wr gb x0 rb ob none 0 (edgR x0.edges (row0 k k) 0) (of0 k k) [] from HBK.out)
    obtain ⟨wq, hwq⟩ : ∃ wq, wq = wr := ⟨_, rfl⟩
    go_upto_region 9 with fail
    clear c2 c3 c4 c5
    go_loopw [51] (fun i wr => ∃ j : Nat, j ≤ L ∧ i = .int .i64 j ∧ BN Y wr gb x0 rb ob none 0 (edgR x0.edges (row0 k k) j) (of0 k k) []) (fun i _ => L - (intOf i).toNat)
    case atStart => exact ⟨0, Nat.zero_le _, rfl, HB1.out⟩
    case round =>
     obtain ⟨j, hj, rfl, hb⟩ := hrel
     obtain ⟨⟨c4, c5⟩, c2, c3⟩ := HC.out wr _ _ _ _ _ hb
     have HBJ := gI hb
     clear hb
     by_cases hjL : j < L
     ·have hji : (j : Int) < (L : Int) := by omega
      have hw1 : IntKind.i64.wrap ((j : Int) + 1) = (j : Int) + 1 := IntWalk.i64_in _ (by have := OK.out.hel; rw [← HL.out] at this; omega)
      obtain ⟨b, off, hla, v0, v1, v2, v3⟩ := ed_cells (HX.out.keep HBJ.out.k).edges (i := j) (by rw [← HL.out]; exact hjL)
      have hbj := OK.out.hE j (by rw [← HL.out]; exact hjL)
      rw [← HN.out] at hbj
      have hrw := edgR_ok (es := x0.edges) (fun i => by
       by_cases hi : i < x0.edges.length
       ·have := (OK.out.hE i hi).2; have := OK.out.hN; omega
       ·rw [List.getD_eq_getElem?_getD, List.getElem?_eq_none (by omega)]; decide) (row0_ok k h64 k (Nat.le_refl _)).1 j
      have HS := gI (show edgR x0.edges (row0 k k) (j + 1) = edgS (edgR x0.edges (row0 k k) j) (x0.edges.getD j e40) from rfl)
      rw [(row0_ok k h64 k (Nat.le_refl _)).2] at hrw
      rw [HX0.out] at hla
      obtain ⟨rw0, hrw0⟩ : ∃ r, r = edgR x0.edges (row0 k k) j := ⟨_, rfl⟩
      rw [← hrw0] at HS HBJ hrw
      obtain ⟨e, he⟩ : ∃ e, e = x0.edges.getD j e40 := ⟨_, rfl⟩
      rw [← he] at v0 v1 v2 v3 hbj HS
      clear he
      obtain ⟨f1, t1, l1, s1⟩ := e
      simp only at v0 v1 v2 v3 hbj
      obtain ⟨F1, rfl⟩ := Int.eq_ofNat_of_zero_le hbj.1.1
      obtain ⟨T, rfl⟩ := Int.eq_ofNat_of_zero_le hbj.2.1
      have hFN : F1 < k := by omega
      have hTN : T < k := by omega
      have HS2 := gI (show edgR x0.edges (row0 k k) (j + 1) = rw0.set F1 (rw0.getD F1 0 ||| 2 ^ T) from HS.out)
      obtain ⟨C, hC⟩ : ∃ C, C = wr.heap.size := ⟨_, rfl⟩
      obtain ⟨Z, hZ⟩ : ∃ Z, Z = wr.alloc (.cells #[.int .i64 F1, .int .i64 T, .int .i64 l1, .int .i64 s1] 125) := ⟨_, rfl⟩
      have hkZ : Keeps [] wr Z := by rw [hZ]; exact Keeps.a1 _ _
      have HBZ := gI (HBJ.out.keep hkZ)
      have hZH : Z.heap[C]? = some (.cells #[.int .i64 F1, .int .i64 T, .int .i64 l1, .int .i64 s1] 125 (0, 0)) := by rw [hZ, hC]; exact heap_alloc_new wr _
      have z0 : Z.cell? ⟨C, 0, none⟩ = some (.int .i64 F1) := by simp [World.cell?, hZH]
      have z1 : Z.cell? ⟨C, 1, none⟩ = some (.int .i64 T) := by simp [World.cell?, hZH]
      obtain ⟨⟨d4, d5⟩, _, _⟩ := HC.out Z _ _ _ _ _ HBZ.out
      have u0 := bu_cell HBZ.out.bg.rw F1 (by rw [hrw.2]; exact hFN)
      have uf := HBZ.out.bg.rw.fz F1
      have h3 : ((2 ^ T : Nat) : Int) = (2 : Int) ^ T := by norm_cast
      have h1 : IntKind.u64.wrap ((2 : Int) ^ T) = ((2 ^ T : Nat) : Int) := by
       have := u64_nat (2 ^ T) (two_pow_lt (by omega))
       rw [← this]; norm_cast
      have hor := or_u64 (rw0.getD F1 0) (2 ^ T) (hrw.1 F1) (two_pow_lt (by omega))
      obtain ⟨r1, hr1⟩ : ∃ r, r = rw0.getD F1 0 := ⟨_, rfl⟩
      rw [← hr1] at u0 hor HS2
      obtain ⟨r2, hr2⟩ : ∃ r, r = r1 ||| 2 ^ T := ⟨_, rfl⟩
      rw [← hr2] at hor HS2
      rw [h3] at hor
      obtain ⟨X, hX⟩ : ∃ X, X = (Z.setCell ⟨rb, F1, none⟩ (.int .u64 (r2 : Int))).drew := ⟨_, rfl⟩
      have HBX := gI (show BN Y X gb x0 rb ob none 0 (edgR x0.edges (row0 k k) (j + 1)) (of0 k k) [] by rw [hX, HS2.out]; exact (HBZ.out.setRow F1 _).keep (Keeps.refl [] _).drew)
      have HXX := gI hX
      have HZ := gI hZ
      have HCC := gI hC
      rw [hla] at c3 ⊢
      clear hX hZ hC hkZ hZH hr1 hr2 hrw0
      go_upto_region 11 with fail
      rw [← HZ.out, ← HCC.out]
      clear v0 v1 v2 v3 c4 c5
      go_region
      rw [← HXX.out]
      go_wp2
      go_roundw
      case rel => exact ⟨j + 1, by omega, by go_num, HBX.out⟩
      case measure => simp [intOf]; omega
     ·obtain rfl : j = L := by omega
      have hR0 := edgR_ok (es := x0.edges) (fun i => by
       by_cases hi : i < x0.edges.length
       ·have := (OK.out.hE i hi).2; have := OK.out.hN; omega
       ·rw [List.getD_eq_getElem?_getD, List.getElem?_eq_none (by omega)]; decide) (row0_ok k h64 k (Nat.le_refl _)).1 j
      rw [(row0_ok k h64 k (Nat.le_refl _)).2] at hR0
      obtain ⟨R0, hR0e⟩ : ∃ r, r = edgR x0.edges (row0 k k) j := ⟨_, rfl⟩
      rw [← hR0e] at hR0 HBJ
      have HR0 := gI hR0
      have HR0E := gI hR0e
      have HBJ2 := gI (show BN Y wr gb x0 rb ob none 0 (warK k R0 0) (of0 k k) [] from HBJ.out)
      clear hR0 hR0e
      go_upto_region 14 with fail
      clear c2 c3 c4 c5
      go_loopw [74] (fun i wr => ∃ m : Nat, m ≤ k ∧ i = .int .i64 m ∧ BN Y wr gb x0 rb ob none 0 (warK k R0 m) (of0 k k) []) (fun i _ => k - (intOf i).toNat)
      case atStart => exact ⟨0, Nat.zero_le _, rfl, HBJ2.out⟩
      case round =>
       obtain ⟨m, hm, rfl, hb⟩ := hrel
       obtain ⟨⟨c4, c5⟩, c2, c3⟩ := HC.out wr _ _ _ _ _ hb
       have HBM := gI hb
       clear hb
       by_cases hmk : m < k
       ·have hmi : (m : Int) < (k : Int) := by omega
        have hw1 : IntKind.i64.wrap ((m : Int) + 1) = (m : Int) + 1 := IntWalk.i64_in _ (by omega)
        have hRM := warK_ok k HR0.out.1 m
        have HE := gI (show warK k R0 (m + 1) = warI m (warK k R0 m) k from rfl)
        obtain ⟨RM, hRMe⟩ : ∃ r, r = warK k R0 m := ⟨_, rfl⟩
        rw [← hRMe] at hRM HBM HE
        rw [HR0.out.2] at hRM
        have HRM := gI hRM
        have HBM2 := gI (show BN Y wr gb x0 rb ob none 0 (warI m RM 0) (of0 k k) [] from HBM.out)
        obtain ⟨wq2, hwq2⟩ : ∃ wq, wq = wr := ⟨_, rfl⟩
        clear hRM hRMe
        go_upto_region 17 with fail
        clear c2 c3 c4 c5
        go_loopw [82] (fun i wr => ∃ n : Nat, n ≤ k ∧ i = .int .i64 n ∧ BN Y wr gb x0 rb ob none 0 (warI m RM n) (of0 k k) []) (fun i _ => k - (intOf i).toNat)
        case atStart => exact ⟨0, Nat.zero_le _, rfl, HBM2.out⟩
        case round =>
         obtain ⟨n, hn, rfl, hb⟩ := hrel
         obtain ⟨⟨c4, c5⟩, c2, c3⟩ := HC.out wr _ _ _ _ _ hb
         have HBI := gI hb
         clear hb
         by_cases hnk : n < k
         ·have hni : (n : Int) < (k : Int) := by omega
          have hw2 : IntKind.i64.wrap ((n : Int) + 1) = (n : Int) + 1 := IntWalk.i64_in _ (by omega)
          have hRI := warI_ok m HRM.out.1 n
          rw [HRM.out.2] at hRI
          have HS := gI (show warI m RM (n + 1) = warS m n (warI m RM n) from rfl)
          obtain ⟨RI, hRIe⟩ : ∃ r, r = warI m RM n := ⟨_, rfl⟩
          rw [← hRIe] at hRI HBI HS
          clear hRIe
          have HS2 := gI (show warS m n RI = if (RI.getD n 0).testBit m then RI.set n (RI.getD n 0 ||| RI.getD m 0) else RI from rfl)
          have u1 := bu_cell HBI.out.bg.rw n (by rw [hRI.2]; exact hnk)
          have u2 := bu_cell HBI.out.bg.rw m (by rw [hRI.2]; exact hmk)
          have uf := HBI.out.bg.rw.fz n
          have bb := bit_u64 (RI.getD n 0) m (hRI.1 n)
          have tt := testBit_div (RI.getD n 0) m
          have hor := or_u64 (RI.getD n 0) (RI.getD m 0) (hRI.1 n) (hRI.1 m)
          obtain ⟨r1, hr1⟩ : ∃ r, r = RI.getD n 0 := ⟨_, rfl⟩
          obtain ⟨r2, hr2⟩ : ∃ r, r = RI.getD m 0 := ⟨_, rfl⟩
          simp only [← hr1, ← hr2] at u1 u2 bb tt hor HS2
          obtain ⟨r3, hr3⟩ : ∃ r, r = r1 ||| r2 := ⟨_, rfl⟩
          rw [← hr3] at hor HS2
          obtain ⟨tb, htb⟩ : ∃ t, t = r1.testBit m := ⟨_, rfl⟩
          rw [← htb] at tt HS2
          clear hr1 hr2 hr3 htb hRI
          cases tb with
          | false =>
           have HS3 := gI (show warI m RM (n + 1) = RI by rw [HS.out, HS2.out]; rfl)
           go_wp2
           go_roundw
           case rel => exact ⟨n + 1, by omega, by go_num, by rw [HS3.out]; exact HBI.out⟩
           case measure => simp [intOf]; omega
          | true =>
           have HS3 := gI (show warI m RM (n + 1) = RI.set n r3 by rw [HS.out, HS2.out]; rfl)
           obtain ⟨X, hX⟩ : ∃ X, X = (wr.setCell ⟨rb, n, none⟩ (.int .u64 (r3 : Int))).drew := ⟨_, rfl⟩
           have HBX := gI (show BN Y X gb x0 rb ob none 0 (warI m RM (n + 1)) (of0 k k) [] by rw [hX, HS3.out]; exact (HBI.out.setRow n _).keep (Keeps.refl [] _).drew)
           have HX := gI hX
           clear hX
           go_upto_region 20 with fail
           go_region
           rw [← HX.out]
           go_wp2
           go_roundw
           case rel => exact ⟨n + 1, by omega, by go_num, HBX.out⟩
           case measure => simp [intOf]; omega
         ·obtain rfl : n = k := by omega
          go_wp2
          go_roundw
          case rel => exact ⟨m + 1, by omega, by go_num, by rw [HE.out]; exact HBI.out⟩
          case measure => simp [intOf]; omega
       ·obtain rfl : m = k := by omega
        have hRWe : warK m R0 m = ngRows x0 := by rw [HR0E.out, HL.out]; unfold ngRows; rw [← HN.out]
        have hRW := warK_ok m HR0.out.1 m
        rw [HR0.out.2] at hRW
        rw [hRWe] at HBM hRW
        have HRW := gI hRW
        obtain ⟨wz, hwz⟩ : ∃ wz, wz = wr := ⟨_, rfl⟩
        rw [← hwz] at HBM
        have HFI := gI (show IntsIn wz x0.fa x0.first from (HX.out.keep HBM.out.k).first)
        have HFE := gI (show x0.first.length = m by rw [OK.out.hf, ← HN.out])
        have HU := gI (fun i (hi : i < m) => bu_cell HBM.out.bg.rw i (by rw [hRW.2]; exact hi))
        have HRE := gI (show reaK x0.first (ngRows x0) m = ngRea x0 by unfold ngRea; rw [← HN.out])
        have HFA := gI (show x.fa = x0.fa by rw [HX0.out])
        obtain ⟨RW, hRWn⟩ : ∃ r, r = ngRows x0 := ⟨_, rfl⟩
        rw [← hRWn] at HBM HRW HU HRE
        have HRWN := gI hRWn
        have c5z := (HC.out wz _ _ _ _ _ HBM.out).1.1
        clear hRWe hRW hRWn
        have hFLm := HFL.out
        go_upto_region 25 with fail
        rw [← hwz]
        clear c2 c3 c4 c5 hwz
        go_loopw [117, 9] (fun i a wr => ∃ n : Nat, n ≤ m ∧ i = .int .i64 n ∧ a = .int .u64 (reaK x0.first RW n : Nat) ∧ wz = wr) (fun i _ _ => m - (intOf i).toNat)
        case atStart => exact ⟨0, Nat.zero_le _, rfl, rfl, rfl⟩
        case round =>
         obtain ⟨n, hn, rfl, rfl, rfl⟩ := hrel
         by_cases hnm : n < m
         ·have hni : (n : Int) < (FL : Int) := by omega
          have hw1 : IntKind.i64.wrap ((n : Int) + 1) = (n : Int) + 1 := IntWalk.i64_in _ (by omega)
          have u := HU.out n hnm
          obtain ⟨b, off, hfa, hc⟩ := HFI.out (by rw [HFE.out]; omega)
          have f0 := hc n (by rw [HFE.out]; exact hnm)
          have hfx := HFA.out
          rw [hfa] at hfx
          have HS := gI (show reaK x0.first RW (n + 1) = if x0.first.getD n 0 ≠ 0 then reaK x0.first RW n ||| RW.getD n 0 else reaK x0.first RW n from rfl)
          have hor := or_u64 (reaK x0.first RW n) (RW.getD n 0) (reaK_lt _ HRW.out.1 n) (HRW.out.1 n)
          obtain ⟨r, hr⟩ : ∃ r, r = RW.getD n 0 := ⟨_, rfl⟩
          obtain ⟨v, hv⟩ : ∃ v, v = x0.first.getD n 0 := ⟨_, rfl⟩
          obtain ⟨q, hq⟩ : ∃ q, q = reaK x0.first RW n := ⟨_, rfl⟩
          simp only [← hr, ← hv, ← hq] at u f0 hor HS ⊢
          obtain ⟨r3, hr3⟩ : ∃ z, z = q ||| r := ⟨_, rfl⟩
          rw [← hr3] at hor HS
          clear hr hv hq hr3 hc
          rw [hfx]
          by_cases h0 : v = 0
          ·have HS2 := gI (show reaK x0.first RW (n + 1) = q by rw [HS.out, if_neg (by simp [h0])])
           have h0' : (v != 0) = false := by simp [h0]
           go_wp2
           go_roundw
           case rel => exact ⟨n + 1, by omega, by go_num, by rw [HS2.out], by trivial⟩
           case measure => simp [intOf]; omega
          ·have HS2 := gI (show reaK x0.first RW (n + 1) = r3 by rw [HS.out, if_pos h0])
           have h0' : (v != 0) = true := by simp [h0]
           go_wp2
           go_roundw
           case rel => exact ⟨n + 1, by omega, by go_num, by rw [HS2.out], by trivial⟩
           case measure => simp [intOf]; omega
         ·obtain rfl : n = m := by omega
          have hre := HRE.out
          have hrb : ngRea x0 < 2 ^ 64 := by rw [← hre]; exact reaK_lt _ HRW.out.1 _
          rw [hre]
          obtain ⟨rea, hrea⟩ : ∃ r, r = ngRea x0 := ⟨_, rfl⟩
          rw [← hrea] at hrb ⊢
          have HRB := gI hrb
          have HNP := gI (show ∀ j, ngPas x0 (j + 1) = pasI RW rea n (ngPas x0 j) n from fun j => by
           rw [hrea, HRWN.out, HN.out]; rfl)
          have HST := gI (show Raw [] (ngPas x0 0).L ∧ BN Y wz gb x0 rb ob none 0 RW (ngPas x0 0).of [] from ⟨rfl, by
           have h : (ngPas x0 0).of = of0 n n := by rw [HN.out]; rfl
           rw [h]; exact HBM.out⟩)
          have HLB := gI (show ∀ j, (ngPas x0 j).of.length = n ∧ (ngPas x0 j).L.length ≤ j * n from fun j => by
           have h := pasK_ok (ngRows x0) (ngRea x0) x0.nodes.length (of0 x0.nodes.length x0.nodes.length) j
           rw [of0_length, ← HN.out] at h
           have e : ngPas x0 j = pasK (ngRows x0) (ngRea x0) n (of0 n n) j := by rw [HN.out]; rfl
           rw [e]; exact h)
          have hF0 : (ngPas x0 0).fin = false := rfl
          have HF0 := gI hF0
          clear hre hrb hrea hF0 hFLm
          go_upto_region 31 with fail
          go_loopw [12] (fun d wr => ∃ j : Nat, j ≤ F + 1 ∧ d = .bool (ngPas x0 j).fin ∧ ∃ pa pc ps, Raw ps (ngPas x0 j).L ∧ BN Y wr gb x0 rb ob pa pc RW (ngPas x0 j).of ps) (fun d wr => dn d + ((F + 1) * n - plen wr gb))
          case atStart => exact ⟨0, by omega, by rw [HF0.out], none, 0, [], HST.out⟩
          case round =>
           obtain ⟨j, hj, rfl, pa, pc, ps, hraw, hb⟩ := hrel
           obtain ⟨⟨c4, c5⟩, _, _⟩ := HC.out wr _ _ _ _ _ hb
           have HRAW := gI hraw
           have HBJ := gI hb
           have hpl := plen_of hb
           clear hraw hb
           obtain ⟨fj, hfj⟩ : ∃ f, f = (ngPas x0 j).fin := ⟨_, rfl⟩
           rw [← hfj]
           cases fj with
           | true =>
            have hjF : j = F + 1 := by
             rcases Nat.lt_or_ge j (F + 1) with h | h
             ·have := OK.out.f2 j (by omega); rw [← hfj] at this; cases this
             ·omega
            clear hfj
            subst hjF
            have hdes := OK.out.des
            rw [← HRAW.out.length] at hdes
            have HDC := gI (HD.out Y wr gb x0 rb ob pa pc RW _ ps HBJ.out hdes)
            clear hdes c4 c5
            go_wp2_with (go_at_call 64; refine HDC.out.mono ?_; rintro e w' ⟨⟨v, rfl⟩, pa2, pc2, hb2⟩)
            rw [HP.out]
            rw [HRWN.out] at hb2
            exact ⟨gb, rb, ob, pa2, pc2, ps, rfl, HRAW.out, hb2.base HKY.out HX00.out⟩
           | false =>
            have hjF : j ≤ F := by
             rcases Nat.lt_or_ge F j with h | h
             ·obtain rfl : j = F + 1 := by omega
              have := OK.out.f1; rw [← hfj] at this; cases this
             ·exact h
            clear hfj
            have HST := gI (show Raw ps (pasI RW rea n (ngPas x0 j) 0).L ∧ BN Y wr gb x0 rb ob pa pc RW (pasI RW rea n (ngPas x0 j) 0).of ps from ⟨HRAW.out, HBJ.out⟩)
            have HPL := gI (show plen wr gb = (ngPas x0 j).L.length by rw [hpl]; exact HRAW.out.length)
            obtain ⟨wj, hwj⟩ : ∃ wj, wj = wr := ⟨_, rfl⟩
            rw [← hwj] at HPL
            have HWJ := gI hwj
            clear hwj
            clear hpl
            go_upto_region 34 with fail
            clear c4 c5
            go_loopw [141, 12] (fun i d wr => ∃ q : Nat, q ≤ n ∧ i = .int .i64 q ∧ d = .bool (pasI RW rea n (ngPas x0 j) q).fin ∧ ∃ pa pc ps, Raw ps (pasI RW rea n (ngPas x0 j) q).L ∧ BN Y wr gb x0 rb ob pa pc RW (pasI RW rea n (ngPas x0 j) q).of ps) (fun i _ _ => n - (intOf i).toNat)
            case atStart => exact ⟨0, Nat.zero_le _, rfl, rfl, pa, pc, ps, HST.out⟩
            case round =>
             obtain ⟨q, hq, rfl, rfl, pa, pc, ps, hraw, hb⟩ := hrel
             obtain ⟨⟨c4, c5⟩, _, _⟩ := HC.out wr _ _ _ _ _ hb
             have HRAW := gI hraw
             have HBQ := gI hb
             clear hraw hb
             by_cases hqn : q < n
             ·have hqi : (q : Int) < (n : Int) := by omega
              have hw1 : IntKind.i64.wrap ((q : Int) + 1) = (q : Int) + 1 := IntWalk.i64_in _ (by omega)
              have HS := gI (show pasI RW rea n (ngPas x0 j) (q + 1) = if pasB RW rea q (pasI RW rea n (ngPas x0 j) q) then ⟨(addK RW q (pasI RW rea n (ngPas x0 j) q).L.length (pasI RW rea n (ngPas x0 j) q).of n).1, (pasI RW rea n (ngPas x0 j) q).L ++ [(addK RW q (pasI RW rea n (ngPas x0 j) q).L.length (pasI RW rea n (ngPas x0 j) q).of n).2], false⟩ else pasI RW rea n (ngPas x0 j) q from rfl)
              have hpo := pasI_ok RW rea n (ngPas x0 j) q
              have hlb := HLB.out j
              have hjn : j * n ≤ 1000 * 64 := Nat.mul_le_mul (by have := OK.out.hF; omega) (by omega)
              have hol : (pasI RW rea n (ngPas x0 j) q).of.length = n := by rw [hpo.1]; exact hlb.1
              have hLl : (pasI RW rea n (ngPas x0 j) q).L.length ≤ 1000000 := by omega
              obtain ⟨s, hs⟩ : ∃ s, s = pasI RW rea n (ngPas x0 j) q := ⟨_, rfl⟩
              rw [← hs] at HS HRAW HBQ hol hLl ⊢
              clear hpo hlb hjn hs
              have HPB := gI (show pasB RW rea q s = (rea.testBit q && (decide (s.of.getD q 0 < 0) && !latN RW s.of rea q n)) by unfold pasB; rw [HRW.out.2])
              have HLA := gI (fun W (h : BN Y W gb x0 rb ob pa pc RW s.of ps) => later_any W gb x0 rb ob pa pc RW s.of ps h.bg q rea (by rw [HRW.out.2, HN.out]) (by rw [hol, HN.out]) (by rw [← HN.out]; exact h64) (by rw [HRW.out.2]; exact hqn) HRB.out (fun i _ => HRW.out.1 i))
              rw [HRW.out.2] at HLA
              have HAD := gI (fun W (h : BN Y W gb x0 rb ob pa pc RW s.of ps) => add_any' Y W gb x0 rb ob pa pc RW s.of ps h (by rw [hol, HN.out]) (by rw [HRW.out.2, HN.out]) (by rw [← HN.out]; exact h64) (by rw [HRAW.out.length]; exact hLl) HRW.out.1 q (by rw [← HN.out]; exact hqn))
              rw [← HN.out] at HAD
              have o := bi_cell HBQ.out.bg.ofs q (by rw [hol]; exact hqn)
              have b1 := bit_u64 rea q HRB.out
              have t1 := testBit_div rea q
              obtain ⟨p1, hp1⟩ : ∃ p1, p1 = rea.testBit q := ⟨_, rfl⟩
              obtain ⟨p2, hp2⟩ : ∃ p2, p2 = latN RW s.of rea q n := ⟨_, rfl⟩
              obtain ⟨oq, hoq⟩ : ∃ v, v = s.of.getD q 0 := ⟨_, rfl⟩
              rw [← hp1] at t1 HPB
              rw [← hp2] at HPB HLA
              rw [← hoq] at o HPB
              clear hp1 hp2 hoq hol hLl
              have HNO := gI (show pasB RW rea q s = false → pasI RW rea n (ngPas x0 j) (q + 1) = s from fun h => by rw [HS.out, h]; rfl)
              have HNR := gI (show pasI RW rea n (ngPas x0 j) (q + 1) = s → ∃ k : Nat, k ≤ n ∧ Value.int .i64 ((q : Int) + 1) = .int .i64 k ∧ Value.bool s.fin = .bool (pasI RW rea n (ngPas x0 j) k).fin ∧ ∃ pa pc ps, Raw ps (pasI RW rea n (ngPas x0 j) k).L ∧ BN Y wr gb x0 rb ob pa pc RW (pasI RW rea n (ngPas x0 j) k).of ps from fun h => ⟨q + 1, by omega, by go_num, by rw [h], pa, pc, ps, by rw [h]; exact HRAW.out, by rw [h]; exact HBQ.out⟩)
              cases p1 with
              | false =>
               have HS2 := gI (HNO.out (by rw [HPB.out]; rfl))
               go_wp2
               go_roundw
               case rel => exact HNR.out HS2.out
               case measure => simp [intOf]; omega
              | true =>
               by_cases hneg : oq < 0
               ·cases p2 with
                | true =>
                 have HS2 := gI (HNO.out (by rw [HPB.out]; simp))
                 go_wp2_with (go_at_call 62; refine (HLA.out _ HBQ.out).mono ?_; rintro e w' ⟨rfl, rfl⟩)
                 go_roundw
                 case rel => exact HNR.out HS2.out
                 case measure => simp [intOf]; omega
                | false =>
                 have HS2 := gI (show pasI RW rea n (ngPas x0 j) (q + 1) = ⟨(addK RW q s.L.length s.of n).1, s.L ++ [(addK RW q s.L.length s.of n).2], false⟩ by rw [HS.out, HPB.out, if_pos (by simp [hneg])])
                 go_wp2_with (go_at_call 62; refine (HLA.out _ HBQ.out).mono ?_; rintro e w' ⟨rfl, rfl⟩)
                 go_wp2_with (go_at_call 63; refine (HAD.out _ HBQ.out).mono ?_; rintro e w' ⟨⟨v, rfl⟩, g, c, na, nc, hb2⟩)
                 have HRZ := gI (show Raw (ps ++ [⟨na, nc, (addK RW q ps.length s.of n).2, false, false, false⟩]) (pasI RW rea n (ngPas x0 j) (q + 1)).L by
                  rw [HS2.out, HRAW.out.length]
                  exact HRAW.out.push na nc _)
                 have HBZ := gI (show BN Y w' gb x0 rb ob (some g) c RW (pasI RW rea n (ngPas x0 j) (q + 1)).of (ps ++ [⟨na, nc, (addK RW q ps.length s.of n).2, false, false, false⟩]) by
                  rw [HS2.out]
                  rw [← HRAW.out.length]
                  exact hb2)
                 have HFZ := gI (show (pasI RW rea n (ngPas x0 j) (q + 1)).fin = false by rw [HS2.out])
                 clear hb2
                 try go_wp2
                 go_roundw
                 case rel => exact ⟨q + 1, by omega, by go_num, by rw [HFZ.out], _, _, _, HRZ.out, HBZ.out⟩
                 case measure => simp [intOf]; omega
               ·have HS2 := gI (HNO.out (by rw [HPB.out]; simp [hneg]))
                go_wp2
                go_roundw
                case rel => exact HNR.out HS2.out
                case measure => simp [intOf]; omega
             ·obtain rfl : q = n := by omega
              have hF1 := (HLB.out (j + 1)).2
              have hF2 : (j + 1) * q ≤ (F + 1) * q := Nat.mul_le_mul_right _ (by omega)
              have hpo := pasI_ok RW rea q (ngPas x0 j) q
              have hpl := HPL.out
              have hpl2 := plen_of HBQ.out
              rw [HRAW.out.length] at hpl2
              rw [HNP.out] at hF1
              have HNP2 := gI (HNP.out j)
              obtain ⟨s, hs⟩ : ∃ s, s = pasI RW rea q (ngPas x0 j) q := ⟨_, rfl⟩
              rw [← hs] at hF1 hpo HBQ HRAW hpl2 HNP2 ⊢
              have HM := gI (show dn (.bool s.fin) + ((F + 1) * q - plen wr gb) < dn (.bool false) + ((F + 1) * q - plen wj gb) by
               obtain ⟨_, h2, h3, h4⟩ := hpo
               rw [hpl, hpl2]
               cases hfin : s.fin with
               | true => simp only [dn]; omega
               | false => have := h4 hfin; simp only [dn]; omega)
              clear hF1 hF2 hpo hpl hpl2 hs
              go_wp2
              go_roundw
              case rel => exact ⟨j + 1, by omega, by rw [HNP2.out], pa, pc, ps, by rw [HNP2.out]; exact HRAW.out, by rw [HNP2.out]; exact HBQ.out⟩
              case measure => rw [← HWJ.out]; exact HM.out
end Go.Proofs.YtkekenaamnhbhaaGreat
