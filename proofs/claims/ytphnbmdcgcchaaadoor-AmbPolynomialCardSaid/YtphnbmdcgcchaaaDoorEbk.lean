/- Part 37 of the proof. No condition: every lemma says its own. -/
import Derived.Test.YtphnbmdcgcchaaaDoorEbj
import Derived.Test.YtphnbmdcgcchaaaDoorEau
import Derived.Test.YtphnbmdcgcchaaaDoorEaf
namespace Go.Proofs.YtphnbmdcgcchaaaDoor
open Go.RowKit Go.Sort Go.BigFrame Classical
set_option maxRecDepth 100000
set_option maxHeartbeats 16000000
def cntRes (x : Gr) (text : List Int) : Int × Int := if gvalE x ≠ 0 then (0, gvalE x) else if 65536 < text.length then (0, 4) else countV x text
theorem sl_zeros (W : World) (N : Nat) (h : N ≤ 64) : SliceAt (W.alloc (.cells (Array.replicate N (.int .i64 0)) 3)) 3 1 (some W.heap.size) N N ((List.replicate N (0 : Int)).map (Value.int .i64)) := by
 have h1 := SliceAt.of_ints (Ints.alloc 3 W (List.replicate N (0 : Int))) (by simp [maxLen]; omega)
 rw [show ((List.replicate N (0 : Int)).map (Value.int .i64)).toArray = Array.replicate N (.int .i64 0) by simp] at h1
 simpa using h1
def ptInt (v : Value) (w : World) : Nat := match v with | .pointer (some a) => (intOf ((w.cell? a).getD undef)).toNat | _ => 0
theorem cwf_bd {cs : List Int} (hcs : ∀ v ∈ cs, 0 ≤ v) : ∀ {L : List E4} {a : List Int}, (∀ e ∈ L, 1 ≤ e.ws) → (∀ v ∈ a, 0 ≤ v ∧ v ≤ 1099511627777) → ∀ v ∈ L.foldl (cw cs) a, 0 ≤ v ∧ v ≤ 1099511627777
 | [], _, _, ha => ha
 | e :: L, a, hL, ha => by
  refine cwf_bd hcs (L := L) (a := cw cs a e) (fun e' h' => hL e' (by simp [h'])) fun v hv => ?_
  unfold cw at hv
  rcases List.mem_or_eq_of_mem_set hv with hv | rfl
  ·exact ha v hv
  ·have h1 := getD_nonneg hcs e.fr.toNat
   have h2 := getD_nonneg (fun v hv => (ha v hv).1) e.tt.toNat
   have h3 : 0 ≤ cs.getD e.fr.toNat 0 * e.ws := Int.mul_nonneg h1 (by have := hL e (by simp); omega)
   split <;> omega
structure CI (w1 : World) (hi mb cmb : Nat) (sl : Int → Option Nat × Nat) (edges : List E4) (cls : List Cl) (N k : Nat) (ga : Option Nat) (ca : Nat) (cs : List Int) (gb : Option Nat) (cb : Nat) (ds : List Int) (wr : World) : Prop where
 kp : Keeps [] w1 wr
 byc : ByC wr mb mb sl edges
 lo : mb < hi ∧ ∀ c g, (sl c).1 = some g → g < hi
 w1h : w1.heap.size ≤ hi
 sa : SliceAt wr 3 1 ga N ca (cs.map (Value.int .i64))
 sb : SliceAt wr 3 1 gb N cb (ds.map (Value.int .i64))
 na : ∀ g, ga = some g → hi ≤ g ∧ g ≠ cmb ∧ gb ≠ some g
 nb : ∀ g, gb = some g → hi ≤ g ∧ g ≠ cmb
 nc : hi ≤ cmb
 cm : ∃ gm, MapAt wr Tryd.prog 3 cmb k gm ∧ ∀ s v, gm (.int .i64 s) = some v → v = .int .i64 (clsOf cls s)
variable {w1 wr w' : World} {hi mb cmb : Nat} {sl : Int → Option Nat × Nat} {edges : List E4} {cls : List Cl} {N k : Nat} {ga : Option Nat} {ca : Nat} {cs : List Int} {gb : Option Nat} {cb : Nat} {ds : List Int}
theorem CI.keep (h : CI w1 hi mb cmb sl edges cls N k ga ca cs gb cb ds wr) {S : List Nat} (K : Keeps S wr w') (hS : ∀ x ∈ S, hi ≤ x ∧ ga ≠ some x ∧ gb ≠ some x ∧ x ≠ cmb) : CI w1 hi mb cmb sl edges cls N k ga ca cs gb cb ds w' := by
 refine ⟨h.kp.after K (fun x hx => .inr (by have := (hS x hx).1; have := h.w1h; omega)), h.byc.keep2 K (fun x hx => ⟨by have := (hS x hx).1; have := h.lo.1; omega, fun c hc => by have := (hS x hx).1; have := h.lo.2 c x hc; omega⟩), h.lo, h.w1h,
  h.sa.keep K (fun g hg hm => (hS g hm).2.1 hg), h.sb.keep K (fun g hg hm => (hS g hm).2.2.1 hg), h.na, h.nb, h.nc, ?_⟩
 obtain ⟨gm, h1, h2⟩ := h.cm
 exact ⟨gm, h1.keep K fun hm => (hS cmb hm).2.2.2 rfl, h2⟩
theorem CI.setB (h : CI w1 hi mb cmb sl edges cls N k ga ca cs gb cb ds wr) {g : Nat} (hg : gb = some g) (K : Keeps [g] wr w') {ds' : List Int} (hs : SliceAt w' 3 1 gb N cb (ds'.map (Value.int .i64))) : CI w1 hi mb cmb sl edges cls N k ga ca cs gb cb ds' w' := by
 have hb := h.nb g hg
 refine ⟨h.kp.after K (fun x hx => .inr (by simp at hx; subst hx; have := h.w1h; omega)), h.byc.keep2 K (fun x hx => by simp at hx; subst hx; exact ⟨by have := h.lo.1; omega, fun c hc => by have := h.lo.2 c _ hc; omega⟩), h.lo, h.w1h,
  h.sa.keep K (fun q hq hm => by simp at hm; subst hm; exact (h.na _ hq).2.2 hg), hs, h.na, h.nb, h.nc, ?_⟩
 obtain ⟨gm, h1, h2⟩ := h.cm
 exact ⟨gm, h1.keep K fun hm => by simp at hm; exact hb.2 hm.symm, h2⟩
theorem CI.swap (h : CI w1 hi mb cmb sl edges cls N k ga ca cs gb cb ds wr) : CI w1 hi mb cmb sl edges cls N k gb cb ds ga ca cs wr :=
 ⟨h.kp, h.byc, h.lo, h.w1h, h.sb, h.sa, fun g hg => ⟨(h.nb g hg).1, (h.nb g hg).2, fun ha => (h.na g ha).2.2 hg⟩, fun g hg => ⟨(h.na g hg).1, (h.na g hg).2.1⟩, h.nc, h.cm⟩
theorem CI.known (h : CI w1 hi mb cmb sl edges cls N k ga ca cs gb cb ds wr) {s : Int} {gm : Value → Option Value} (K : Keeps [cmb] wr w') (hm : MapAt w' Tryd.prog 3 cmb (k + 1) (fun u => if u = .int .i64 s then some (.int .i64 (clsOf cls s)) else gm u)) (hg : ∀ s v, gm (.int .i64 s) = some v → v = .int .i64 (clsOf cls s)) :
  CI w1 hi mb cmb sl edges cls N (k + 1) ga ca cs gb cb ds w' := by
 refine ⟨h.kp.after K (fun x hx => .inr (by simp at hx; subst hx; have := h.w1h; have := h.nc; omega)), h.byc.keep2 K (fun x hx => by simp at hx; subst hx; exact ⟨by have := h.lo.1; have := h.nc; omega, fun c hc => by have := h.lo.2 c _ hc; have := h.nc; omega⟩), h.lo, h.w1h,
  h.sa.keep K (fun q hq hm => by simp at hm; subst hm; exact (h.na _ hq).2.1 rfl), h.sb.keep K (fun q hq hm => by simp at hm; subst hm; exact (h.nb _ hq).2 rfl), h.na, h.nb, h.nc, _, hm, fun s' v hv => ?_⟩
 by_cases e : s' = s
 ·subst e
  rw [if_pos rfl] at hv
  exact (Option.some.inj hv).symm
 ·rw [if_neg (by simpa using e)] at hv
  exact hg s' v hv
theorem CI.less (h : CI w1 hi mb cmb sl edges cls N k ga ca cs gb cb ds wr) {m : Nat} (hm : k ≤ m) : CI w1 hi mb cmb sl edges cls N m ga ca cs gb cb ds wr := by
 obtain ⟨gm, h1, h2⟩ := h.cm
 exact ⟨h.kp, h.byc, h.lo, h.w1h, h.sa, h.sb, h.na, h.nb, h.nc, gm, h1.mono hm, h2⟩
set_option linter.unusedSimpArgs false in
theorem Count_any (x : Gr) (text : List Int) (ta : Option Addr) (tc : Nat) (w : World) (hx : GrIn w x) (ht : IntsIn w ta text) (hI : ∀ s ∈ text, M64 s) (htl : text.length ≤ 1000000000000) :
  Calls Tryd.prog 12 #[x.val, .slice ta text.length tc] w fun e w' => e = .returned (.tuple #[.int .i64 (cntRes x text).1, .int .i64 (cntRes x text).2]) ∧ Keeps [] w w' := by
 obtain ⟨R, hR⟩ : ∃ R, R = cntRes x text := ⟨_, rfl⟩
 rw [← hR]
 obtain ⟨Q, hQ⟩ : ∃ Q : Ending → World → Prop, Q = fun e w' => e = .returned (.tuple #[.int .i64 R.1, .int .i64 R.2]) ∧ Keeps [] w w' := ⟨_, rfl⟩
 rw [← hQ]
 have HR := Lib.hid hR
 have HQ := Lib.hid hQ
 obtain ⟨B, hB⟩ : ∃ B, B = w.heap.size := ⟨_, rfl⟩
 obtain ⟨Y, hY⟩ : ∃ Y, Y = (w.alloc (.cells x.row.toArray 26)).alloc (.cells #[.slice ta text.length tc] 22) := ⟨_, rfl⟩
 have hkY : Keeps [] w Y := by rw [hY]; exact (Keeps.a1 _ _).alloc _
 have hYs : Y.heap.size = B + 2 := by rw [hY, hB]; simp
 have hb : Y.heap[B]? = some (.cells x.row.toArray 26 (0, 0)) := by rw [hY, hB]; exact (Keeps.a1 _ _).heap (heap_alloc_new w _) (by simp)
 have htb : Y.heap[B + 1]? = some (.cells #[.slice ta text.length tc] 22 (0, 0)) := by rw [hY, hB]; exact heap_alloc2_new w _ _
 obtain ⟨b0, b1, b2, b3⟩ := row_cells4 hb
 have t0 : Y.cell? ⟨B + 1, 0, none⟩ = some (.slice ta text.length tc) := by simp [World.cell?, htb]
 have HV := gvalid_any x Y (hx.keep hkY)
 simp only [Gr.val] at HV ⊢
 obtain ⟨gv, hgv⟩ : ∃ gv, gv = gvalE x := ⟨_, rfl⟩
 rw [← hgv] at HV
 have HV := Lib.hid HV
 have HGV := Lib.hid hgv
 have HX := Lib.hid (hx.keep hkY)
 have HT := Lib.hid (ht.keep hkY)
 have HI := Lib.hid hI
 have HY := Lib.hid (show (w.alloc (.cells #[.slice x.ca x.cls.length x.cc, .slice x.na x.nodes.length x.nc, .slice x.fa x.first.length x.fc, .slice x.ea x.edges.length x.ec] 26)).alloc (.cells #[.slice ta text.length tc] 22) = Y by rw [hY]; rfl)
 have HB := Lib.hid hB
 have HYS := Lib.hid hYs
 have HK := Lib.hid hkY
 have HRW := Lib.hid hb
 have HTR := Lib.hid htb
 obtain ⟨ea, hea⟩ : ∃ v, v = x.ea := ⟨_, rfl⟩
 obtain ⟨edges, hed⟩ : ∃ v, v = x.edges := ⟨_, rfl⟩
 obtain ⟨fa, hfa⟩ : ∃ v, v = x.fa := ⟨_, rfl⟩
 obtain ⟨first, hfi⟩ : ∃ v, v = x.first := ⟨_, rfl⟩
 obtain ⟨ca, hca⟩ : ∃ v, v = x.ca := ⟨_, rfl⟩
 obtain ⟨cls, hcl⟩ : ∃ v, v = x.cls := ⟨_, rfl⟩
 simp only [← hea, ← hed, ← hfa, ← hfi, ← hca, ← hcl] at b0 b1 b2 b3 HV HY ⊢
 have HEA := Lib.hid (And.intro hea hed)
 have HFA := Lib.hid (And.intro hfa hfi)
 have HCA := Lib.hid (And.intro hca hcl)
 clear hR hQ hB hY hkY hYs hb htb hgv hx ht hI hea hed hfa hfi hca hcl
 go_enter Tryd.func12, Tryd.ntmps12
 go_upto_region 1 with fail
 rw [HY.out, ← HB.out]
 go_wp2_with fail
 refine HV.out.mono ?_
 rintro e w1 ⟨rfl, hk1⟩
 have b0 := hk1.cell b0 (by simp)
 have b1 := hk1.cell b1 (by simp)
 have b2 := hk1.cell b2 (by simp)
 have b3 := hk1.cell b3 (by simp)
 have t0 := hk1.cell t0 (by simp)
 have HK1 := Lib.hid (HK.out.trans hk1)
 have HX1 := Lib.hid (HX.out.keep hk1)
 have HT1 := Lib.hid (HT.out.keep hk1)
 have HRW1 := Lib.hid (hk1.heap HRW.out (by simp))
 have HTR1 := Lib.hid (hk1.heap HTR.out (by simp))
 clear hk1
 by_cases hg : gv = 0
 ·subst hg
  have HOK := Lib.hid (gval_ok HGV.out.symm)
  by_cases htx : 65536 < text.length
  ·have hti : (65536 : Int) < text.length := by omega
   have HF := Lib.hid (show R = (0, 4) by rw [HR.out, cntRes, if_neg (by rw [← HGV.out]; simp), if_pos htx])
   go_wp2
   rw [HQ.out, HF.out]
   exact ⟨rfl, HK1.out⟩
  ·have hti : ¬ (65536 : Int) < text.length := by omega
   have HF := Lib.hid (show R = countV x text by rw [HR.out, cntRes, if_neg (by rw [← HGV.out]; simp), if_neg htx])
   have HMM : ∀ W : World, (Instr.makeMap 80 none).run Tryd.prog W = .ok (.map (some W.heap.size)) (W.alloc (.map #[] 0)) := fun W => run_makeMap _ W
   have HMM2 : ∀ W : World, (Instr.makeMap 81 none).run Tryd.prog W = .ok (.map (some W.heap.size)) (W.alloc (.map #[] 0)) := fun W => run_makeMap _ W
   have hen : edges.length ≤ 65536 := by rw [HEA.out.2]; exact HOK.out.le
   have HEE := Lib.hid (show ∀ e ∈ edges, ((0 ≤ e.fr ∧ e.fr < first.length) ∧ (0 ≤ e.tt ∧ e.tt < first.length) ∧ (0 ≤ e.cl ∧ e.cl < cls.length) ∧ 1 ≤ e.ws ∧ e.ws ≤ 1099511627776) from by rw [HEA.out.2, HFA.out.2, HCA.out.2, HOK.out.lf]; exact HOK.out.ed)
   have HEIN := Lib.hid (show EdIn w1 ea edges from by rw [HEA.out.1, HEA.out.2]; exact HX1.out.edges)
   obtain ⟨ie, hie, hez, hes, heb⟩ := infoParts infoEd
   have HIE := Lib.hid hie
   have HEZ := Lib.hid hez
   have HES := Lib.hid hes
   have HEB := Lib.hid heb
   clear hie hez hes heb
   go_upto_region 7 with fail
   obtain ⟨mb, hmb⟩ : ∃ mb, mb = w1.heap.size := ⟨_, rfl⟩
   obtain ⟨w2, hw2⟩ : ∃ w2, w2 = w1.alloc (.map #[] 0) := ⟨_, rfl⟩
   have hk2 : Keeps [] w1 w2 := by rw [hw2]; exact Keeps.a1 _ _
   have HBY := Lib.hid (show ByC w2 mb mb (fun _ => (none, 0)) [] by rw [hw2, hmb]; exact ByC.start w1)
   have HMB := Lib.hid hmb
   have b3' := hk2.cell b3 (by simp)
   have HK2 := Lib.hid hk2
   rw [← hw2, ← hmb]
   have B3 := Lib.hid b3
   clear hmb hw2 hk2 b3
   go_wp2
   go_loopw [32] (fun v wr => ∃ (q : Nat) (sl : Int → Option Nat × Nat), v = .int .i64 q ∧ q ≤ edges.length ∧ ByC wr mb mb sl (edges.take q) ∧ Keeps [] w1 wr) (fun v _ => edges.length - (intOf v).toNat)
   case atStart => exact ⟨0, _, rfl, Nat.zero_le _, HBY.out, HK2.out⟩
   case round =>
    obtain ⟨q, sl, rfl, hq, hby, hkr⟩ := hrel
    obtain ⟨wA, hwA⟩ : ∃ wA : World, wA = wr := ⟨_, rfl⟩
    subst hwA
    have HBA := Lib.hid hby
    have HKA := Lib.hid hkr
    clear b3'
    by_cases hqn : q < edges.length
    ·obtain ⟨eb, eoff, rfl, hec⟩ := (HEIN.out.keep hkr) (by omega)
     obtain ⟨e0, e1, e2, e3⟩ := hec q hqn
     have hoe := HEE.out edges[q] (List.getElem_mem hqn)
     have htk : edges.take (q + 1) = edges.take q ++ [edges[q]] := List.take_succ_eq_append_getElem hqn
     obtain ⟨ed, hede⟩ : ∃ ed, ed = edges[q] := ⟨_, rfl⟩
     rw [← hede] at e0 e1 e2 e3 hoe htk
     obtain ⟨ef, et, ek, ew⟩ := ed
     simp only at e0 e1 e2 e3 hoe
     have HTK := Lib.hid htk
     obtain ⟨gm, hmap, hgm⟩ := hby.map
     have hval : (gm (.int .i64 ek)).getD (.slice none 0 0) = sv (sl ek).1 (selC (edges.take q) ek).length (sl ek).2 := by
      rw [hgm ek]
      split
      ·rename_i hnil
       rw [hby.nil ek hnil, hnil]; rfl
      ·rfl
     obtain ⟨D, hD⟩ : ∃ D, D = wA.heap.size := ⟨_, rfl⟩
     obtain ⟨Z, hZ⟩ : ∃ Z, Z = wA.alloc (.cells #[.int .i64 ef, .int .i64 et, .int .i64 ek, .int .i64 ew] 48) := ⟨_, rfl⟩
     have hkZ : Keeps [] wA Z := by rw [hZ]; exact Keeps.a1 _ _
     have hZH : Z.heap[D]? = some (.cells #[.int .i64 ef, .int .i64 et, .int .i64 ek, .int .i64 ew] 48 (0, 0)) := by rw [hZ, hD]; exact heap_alloc_new wA _
     have z0 : Z.cell? ⟨D, 0, none⟩ = some (.int .i64 ef) := by simp [World.cell?, hZH]
     have z1 : Z.cell? ⟨D, 1, none⟩ = some (.int .i64 et) := by simp [World.cell?, hZH]
     have z2 : Z.cell? ⟨D, 2, none⟩ = some (.int .i64 ek) := by simp [World.cell?, hZH]
     have z3 : Z.cell? ⟨D, 3, none⟩ = some (.int .i64 ew) := by simp [World.cell?, hZH]
     have hcn : cls.length ≤ 1000000000000 := by rw [HCA.out.2]; exact HX1.out.lc
     have hek : -9223372036854775808 ≤ ek ∧ ek ≤ 9223372036854775807 := by omega
     have hlook : ∀ W, Keeps [] Z W → (Instr.lookup 80 (.map (some mb)) (.int .i64 ek) false).run Tryd.prog W = .ok (.slice ((sl ek).1.map fun g => ⟨g, 0, none⟩) (selC (edges.take q) ek).length (sl ek).2) W := fun W hk => by
      have h := ((hmap.keep hkZ (by simp)).keep hk (by simp)).look false intKeyed Tryd.underlying80 (z := .slice none 0 0) (by kernel_rfl) (keyI hek)
      rw [hval] at h
      exact h
     have L1 := hlook Z.drew ((Keeps.refl [] Z).drew)
     have K2 : Keeps [] Z (Z.alloc (.cells #[.int .i64 ef, .int .i64 et, .int .i64 ek, .int .i64 ew] 48)).drew := ((Keeps.refl [] Z).alloc _).drew
     have L2 := hlook _ K2
     have HBZ := Lib.hid (show ∀ W, Keeps [] Z W → ByC W mb mb sl (edges.take q) from fun W hk => hby.keep (hkZ.trans hk) (by simp))
     have HSL := Lib.hid (Nat.le_trans (selC_le (edges.take q) ek) (List.length_take_le q edges))
     have HMAP := Lib.hid (hmap.keep hkZ (by simp))
     have HGM := Lib.hid hgm
     have HEK := Lib.hid hek
     have HMB2 := Lib.hid (show mb ∉ (sl ek).1.toList from fun hm => (hby.slo ek mb (by simpa using hm)).2 rfl)
     have HSB := Lib.hid (show ∀ x, (sl ek).1 = some x → w1.heap.size ≤ x from fun x hx => by have h1 := (hby.slo ek x hx).1; have h2 := HMB.out; omega)
     have HND := Lib.hid (show D ∉ (sl ek).1.toList ∧ D ≠ mb from ⟨fun hm => by have h1 := hby.slt (c := ek) (g := D) (by simpa using hm); omega, by have := hby.lt; omega⟩)
     have HBS := Lib.hid (show ∀ W, Keeps [] Z W → mb ≤ W.heap.size from fun W hk => by have h1 := (hkZ.trans hk).size; have h2 := hby.lt; omega)
     have HNEWS := Lib.hid (show ∀ (j : Nat) (u : Value), (E4.cells ⟨ef, et, ek, ew⟩)[j]? = some u → (Z.alloc (.cells #[.int .i64 ef, .int .i64 et, .int .i64 ek, .int .i64 ew] 48)).drew.cell? ((⟨Z.heap.size, 0, none⟩ : Addr).add j) = some u from news_row Z (E4.cells ⟨ef, et, ek, ew⟩) 48)
     have HONE := Lib.hid (show ∀ u ∈ E4.cells ⟨ef, et, ek, ew⟩, u.oneCell' = true from fun u hu => by
      simp [E4.cells] at hu
      rcases hu with rfl | rfl | rfl | rfl <;> rfl)
     have HKZ := Lib.hid (hkr.trans hkZ)
     have HZ := Lib.hid hZ
     have HD := Lib.hid hD
     clear hec hede htk hby hkr hmap hgm hval hZ hD hkZ hZH hcn hek hlook hoe
     go_upto_region 10 with fail
     rw [← HZ.out, ← HD.out]
     clear e0 e1 e2 e3
     refine wp_region_held_drew (S := fun w' => w'.cell? ⟨D, 0, none⟩ = some (.int .i64 ef) ∧ w'.cell? ⟨D, 1, none⟩ = some (.int .i64 et) ∧ w'.cell? ⟨D, 2, none⟩ = some (.int .i64 ek) ∧ w'.cell? ⟨D, 3, none⟩ = some (.int .i64 ew)) (by kernel_rfl) ⟨z0, z1, z2, z3⟩ (fun hHeld => ?_)
     refine take_on (i := 0) (v := ?_) rfl (by kernel_rfl) (by kernel_rfl) (by kernel_rfl) (fun _ _ _ h => h) (by rfl) (by assumption) ?_ ?_
     rotate_left
     ·((intro w hSw; (try dsimp only at hSw); go_simp <;> with_reducible rfl); done)
     try simp only [Act.put, List.setIfInBounds_toArray, List.set_cons_zero, List.set_cons_succ]
     refine take_on (i := 1) (v := ?_) rfl (by kernel_rfl) (by kernel_rfl) (by kernel_rfl) (fun _ _ _ h => h) (by rfl) (by assumption) ?_ ?_
     rotate_left
     ·((intro w hSw; (try dsimp only at hSw); go_simp <;> with_reducible rfl); done)
     try simp only [Act.put, List.setIfInBounds_toArray, List.set_cons_zero, List.set_cons_succ]
     refine take_on (i := 2) (v := ?_) rfl (by kernel_rfl) (by kernel_rfl) (by kernel_rfl) (fun _ _ _ h => h) (by rfl) (by assumption) ?_ ?_
     rotate_left
     ·((intro w hSw; (try dsimp only at hSw); go_simp <;> with_reducible rfl); done)
     try simp only [Act.put, List.setIfInBounds_toArray, List.set_cons_zero, List.set_cons_succ]
     refine take_on (i := 3) (v := ?_) rfl (by kernel_rfl) (by kernel_rfl) (by kernel_rfl) (fun _ _ _ h => h) (by rfl) (by assumption) ?_ ?_
     rotate_left
     ·((intro w hSw; (try dsimp only at hSw); go_simp <;> with_reducible rfl); done)
     try simp only [Act.put, List.setIfInBounds_toArray, List.set_cons_zero, List.set_cons_succ]
     refine take_on (i := 4) (v := ?_) rfl (by kernel_rfl) (by kernel_rfl) (by kernel_rfl) (fun _ _ _ h => h) (by rfl) (by assumption) ?_ ?_
     rotate_left
     ·((intro w hSw; (try dsimp only at hSw); go_simp <;> with_reducible rfl); done)
     try simp only [Act.put, List.setIfInBounds_toArray, List.set_cons_zero, List.set_cons_succ]
     refine take_on (i := 5) (v := ?_) rfl (by kernel_rfl) (by kernel_rfl) (by kernel_rfl) (fun _ _ _ h => h) (by rfl) (by assumption) ?_ ?_
     rotate_left
     ·((intro w hSw; (try dsimp only at hSw); go_simp <;> with_reducible rfl); done)
     try simp only [Act.put, List.setIfInBounds_toArray, List.set_cons_zero, List.set_cons_succ]
     refine take_on (i := 7) (v := ?_) rfl (by kernel_rfl) (by kernel_rfl) (by kernel_rfl) (fun _ _ _ h => h) (by rfl) (by assumption) ?_ ?_
     rotate_left
     ·((intro w hSw; (try dsimp only at hSw); go_simp <;> with_reducible rfl); done)
     try simp only [Act.put, List.setIfInBounds_toArray, List.set_cons_zero, List.set_cons_succ]
     refine branch_two (i := 6) (j := 8) rfl rfl (by kernel_rfl) (by rfl) (by rfl) (fun K hK => ?_) (fun K hK => ?_)
     ·as_aux_lemma =>
       go_simp
       refine hK.out _ _ (⟨z0, z1, z2, z3⟩) (fun hHeld => ?_)
       clear hK K
       try simp only [Act.put, List.setIfInBounds_toArray, List.set_cons_zero, List.set_cons_succ]
       refine branch_one (i := 8) rfl (by kernel_rfl) (by rfl) (fun K hK => ?_)
       go_simp
       refine hK.out _ _ (⟨K2.cell z0 (by simp), K2.cell z1 (by simp), K2.cell z2 (by simp), K2.cell z3 (by simp)⟩) (fun hHeld => ?_)
       clear hK K
       try simp only [Act.put, List.setIfInBounds_toArray, List.set_cons_zero, List.set_cons_succ]
       refine branch_one (i := 9) rfl (by kernel_rfl) (by rfl) (fun K hK => ?_)
       refine wp_append_sl (.tmp 42) (.tmp 44) 24 rfl 48 ie _ 4 32 Tryd.underlying24 HIE.out HEZ.out HES.out HEB.out rfl (by decide) (sl ek).1 (selC (edges.take q) ek).length (sl ek).2 (flatE (selC (edges.take q) ek)) rfl ((HBZ.out _ K2).sls ek) ⟨Z.heap.size, 0, none⟩ 1 1 (E4.cells ⟨ef, et, ek, ew⟩) rfl rfl HNEWS.out HONE.out (by decide) (by have := HSL.out; omega) (by have := HSL.out; omega) ?_
       intro g c2 w3 hsl3 hk3 hg3
       have K3 : ∀ (a : Addr) (v : Value), Z.cell? a = some v → a.block = D → w3.cell? a = some v := fun a v h hm => hk3.cell (K2.cell h (by simp)) (by rw [hm]; exact HND.out.1)
       refine hK.out _ _ (⟨K3 _ _ z0 rfl, K3 _ _ z1 rfl, K3 _ _ z2 rfl, K3 _ _ z3 rfl⟩) (fun hHeld => ?_)
       clear hK K
       try simp only [Act.put, List.setIfInBounds_toArray, List.set_cons_zero, List.set_cons_succ]
       refine branch_one (i := 10) rfl (by kernel_rfl) (by rfl) (fun K hK => ?_)
       refine wp_mapPut (.tmp 36) (.tmp 38) (.tmp 45) 80 rfl 3 24 intKeyed Tryd.underlying80 mb (edges.take q).length gm rfl ((HMAP.out.keep K2 (by simp)).keep hk3 HMB2.out) (by unfold maxLen; simp; omega) (.int .i64 ek) (sv (some g) ((selC (edges.take q) ek).length + 1) c2) rfl rfl (keyI HEK.out) ?_
       intro w4 hm4 hk4
       have K4 : ∀ (a : Addr) (v : Value), Z.cell? a = some v → a.block = D → w4.cell? a = some v := fun a v h hm => hk4.cell (K3 a v h hm) (by rw [hm]; simpa using HND.out.2)
       refine hK.out _ _ (⟨K4 _ _ z0 rfl, K4 _ _ z1 rfl, K4 _ _ z2 rfl, K4 _ _ z3 rfl⟩) (fun hHeld => ?_)
       clear hK K
       try simp only [Act.put, List.setIfInBounds_toArray, List.set_cons_zero, List.set_cons_succ]
       have HSTEP := Lib.hid ((HBZ.out _ K2).step (e := ⟨ef, et, ek, ew⟩) (g := g) (c2 := c2) hsl3 hk3 hg3 hk4 gm HGM.out hm4 (HBS.out _ K2))
       have HK4 := Lib.hid (show Keeps [] w1 w4 from ((HKZ.out.trans K2).after hk3 (fun x hx => .inr (HSB.out x (by simpa using hx)))).after hk4 (fun x hx => .inr (by simp at hx; subst hx; exact Nat.le_of_eq HMB.out.symm)))
       clear K3 K4 hsl3 hk3 hg3 hm4 hk4 z0 z1 z2 z3 L1 L2 K2
       refine wpAnyH_done (by kernel_rfl) ?_ _
       go_wp2
       go_roundw
       case rel => exact ⟨q + 1, updC sl ek (some g, c2), by go_num, hqn, by rw [HTK.out]; exact HSTEP.out, HK4.out⟩
       case measure => simp [intOf]; omega
     ·as_aux_lemma =>
       go_simp
       refine hK.out _ _ (⟨K2.cell z0 (by simp), K2.cell z1 (by simp), K2.cell z2 (by simp), K2.cell z3 (by simp)⟩) (fun hHeld => ?_)
       clear hK K
       try simp only [Act.put, List.setIfInBounds_toArray, List.set_cons_zero, List.set_cons_succ]
       refine branch_one (i := 6) rfl (by kernel_rfl) (by rfl) (fun K hK => ?_)
       go_simp
       refine hK.out _ _ (⟨K2.cell z0 (by simp), K2.cell z1 (by simp), K2.cell z2 (by simp), K2.cell z3 (by simp)⟩) (fun hHeld => ?_)
       clear hK K
       try simp only [Act.put, List.setIfInBounds_toArray, List.set_cons_zero, List.set_cons_succ]
       refine branch_one (i := 9) rfl (by kernel_rfl) (by rfl) (fun K hK => ?_)
       refine wp_append_sl (.tmp 42) (.tmp 44) 24 rfl 48 ie _ 4 32 Tryd.underlying24 HIE.out HEZ.out HES.out HEB.out rfl (by decide) (sl ek).1 (selC (edges.take q) ek).length (sl ek).2 (flatE (selC (edges.take q) ek)) rfl ((HBZ.out _ K2).sls ek) ⟨Z.heap.size, 0, none⟩ 1 1 (E4.cells ⟨ef, et, ek, ew⟩) rfl rfl HNEWS.out HONE.out (by decide) (by have := HSL.out; omega) (by have := HSL.out; omega) ?_
       intro g c2 w3 hsl3 hk3 hg3
       have K3 : ∀ (a : Addr) (v : Value), Z.cell? a = some v → a.block = D → w3.cell? a = some v := fun a v h hm => hk3.cell (K2.cell h (by simp)) (by rw [hm]; exact HND.out.1)
       refine hK.out _ _ (⟨K3 _ _ z0 rfl, K3 _ _ z1 rfl, K3 _ _ z2 rfl, K3 _ _ z3 rfl⟩) (fun hHeld => ?_)
       clear hK K
       try simp only [Act.put, List.setIfInBounds_toArray, List.set_cons_zero, List.set_cons_succ]
       refine branch_one (i := 10) rfl (by kernel_rfl) (by rfl) (fun K hK => ?_)
       refine wp_mapPut (.tmp 36) (.tmp 38) (.tmp 45) 80 rfl 3 24 intKeyed Tryd.underlying80 mb (edges.take q).length gm rfl ((HMAP.out.keep K2 (by simp)).keep hk3 HMB2.out) (by unfold maxLen; simp; omega) (.int .i64 ek) (sv (some g) ((selC (edges.take q) ek).length + 1) c2) rfl rfl (keyI HEK.out) ?_
       intro w4 hm4 hk4
       have K4 : ∀ (a : Addr) (v : Value), Z.cell? a = some v → a.block = D → w4.cell? a = some v := fun a v h hm => hk4.cell (K3 a v h hm) (by rw [hm]; simpa using HND.out.2)
       refine hK.out _ _ (⟨K4 _ _ z0 rfl, K4 _ _ z1 rfl, K4 _ _ z2 rfl, K4 _ _ z3 rfl⟩) (fun hHeld => ?_)
       clear hK K
       try simp only [Act.put, List.setIfInBounds_toArray, List.set_cons_zero, List.set_cons_succ]
       have HSTEP := Lib.hid ((HBZ.out _ K2).step (e := ⟨ef, et, ek, ew⟩) (g := g) (c2 := c2) hsl3 hk3 hg3 hk4 gm HGM.out hm4 (HBS.out _ K2))
       have HK4 := Lib.hid (show Keeps [] w1 w4 from ((HKZ.out.trans K2).after hk3 (fun x hx => .inr (HSB.out x (by simpa using hx)))).after hk4 (fun x hx => .inr (by simp at hx; subst hx; exact Nat.le_of_eq HMB.out.symm)))
       clear K3 K4 hsl3 hk3 hg3 hm4 hk4 z0 z1 z2 z3 L1 L2 K2
       refine wpAnyH_done (by kernel_rfl) ?_ _
       go_wp2
       go_roundw
       case rel => exact ⟨q + 1, updC sl ek (some g, c2), by go_num, hqn, by rw [HTK.out]; exact HSTEP.out, HK4.out⟩
       case measure => simp [intOf]; omega
    ·obtain rfl : q = edges.length := by omega
     rw [List.take_length] at hby
     have HBF := Lib.hid hby
     have HKRR := Lib.hid hkr
     have b2 := hkr.cell b2 (by simp)
     have t0 := hkr.cell t0 (by simp)
     have HFIN := Lib.hid (show IntsIn wA fa first from by rw [HFA.out.1, HFA.out.2]; exact HX1.out.first.keep hkr)
     have hfl : first.length ≤ 64 := by rw [HFA.out.2, HOK.out.lf]; exact HOK.out.ln
     have HRWA := Lib.hid (hkr.heap HRW1.out (by simp))
     have HTRA := Lib.hid (hkr.heap HTR1.out (by simp))
     clear hby hkr b0 b1
     obtain ⟨N, hN⟩ : ∃ N, N = first.length := ⟨_, rfl⟩
     obtain ⟨cmb, hcmb⟩ : ∃ cmb, cmb = wA.heap.size := ⟨_, rfl⟩
     obtain ⟨wM, hwM⟩ : ∃ wM, wM = wA.alloc (.map #[] 0) := ⟨_, rfl⟩
     have hkM : Keeps [] wA wM := by rw [hwM]; exact Keeps.a1 _ _
     have HCM := Lib.hid (show MapAt wM Tryd.prog 3 cmb 0 (fun _ => none) by rw [hwM, hcmb]; exact MapAt.made wA _ _)
     have b2 := hkM.cell b2 (by simp)
     have t0 := hkM.cell t0 (by simp)
     obtain ⟨ii, hi0, hi1, hi2, hi3⟩ := infoParts infoInt
     have HMK : ∀ W : World, (Instr.makeSlice 22 (.int .i64 (N : Nat)) (.int .i64 (N : Nat))).run Tryd.prog W = .ok (.slice (some ⟨W.heap.size, 0, none⟩) N N) (W.alloc (.cells (Array.replicate N (.int .i64 0)) 3)) := fun W => by
      have h := run_make_ints Tryd.underlying22 hi0 hi1 hi2 hi3 W (N : Nat) (by omega) (by omega)
      simpa using h
     have HCL := Lib.hid (show ∀ W, Keeps [] wM W → Calls Tryd.prog 28 #[.slice fa N x.fc] W fun e w' => ∃ a c, e = .returned (sv a N c) ∧ SliceAt w' 3 1 a N c (first.map (Value.int .i64)) ∧ Keeps [] W w' ∧ ∀ g, a = some g → W.heap.size ≤ g from fun W hk => by
      have h := cloneI_any fa x.fc first W (HFIN.out.keep (hkM.trans hk)) (fun h => by
       cases hf : first with
       | nil => rfl
       | cons a l => have h2 := HFIN.out; rw [hf] at h2; obtain ⟨b, o, h3, _⟩ := h2 (by simp); rw [h] at h3; cases h3) (by omega)
      rw [← hN] at h
      exact h)
     have HBM := Lib.hid (HBF.out.keep hkM (by simp))
     have HLO := Lib.hid (show mb < cmb ∧ (∀ c g, (sl c).1 = some g → g < cmb) ∧ cmb < wM.heap.size ∧ w1.heap.size ≤ cmb from by
      refine ⟨by rw [hcmb]; exact HBF.out.lt, fun c g hg => by rw [hcmb]; exact HBF.out.slt hg, by rw [hwM, hcmb]; simp, by rw [hcmb]; exact HKRR.out.size⟩)
     have HKM := Lib.hid (HKRR.out.trans hkM)
     have HNN := Lib.hid hN
     have HTRM := Lib.hid (hkM.heap HTRA.out (by simp))
     have HWM := Lib.hid hwM
     have HCMB := Lib.hid hcmb
     rw [← hN] at b2
     clear hi0 hi1 hi2 hi3 hkM hwM
     go_upto_region 13 with fail
     rw [← HWM.out, ← hcmb, ← hN]
     have hN64 : N ≤ 64 := by omega
     clear hcmb hN hfl
     go_cut [11, 12] (fun s11 s12 wx => ∃ (ga gb : Option Nat) (ca cb : Nat), s11 = .slice (ga.map fun g => ⟨g, 0, none⟩) N ca ∧ s12 = .slice (gb.map fun g => ⟨g, 0, none⟩) N cb ∧ Keeps [] wM wx ∧ CI w1 cmb mb cmb sl edges cls N 0 ga ca first gb cb (List.replicate N (0 : Int)) wx)
     case first =>
      have HFIN2 := Lib.hid (show ∀ (ga gb : Option Nat) (c1 c2 : Nat) (wx : World), Keeps [] wM wx → SliceAt wx 3 1 ga N c1 (first.map (Value.int .i64)) → SliceAt wx 3 1 gb N c2 ((List.replicate N (0 : Int)).map (Value.int .i64)) → (∀ g, ga = some g → wM.heap.size ≤ g) → (∀ g, gb = some g → wM.heap.size ≤ g) → (∀ g, ga = some g → gb ≠ some g) → CI w1 cmb mb cmb sl edges cls N 0 ga c1 first gb c2 (List.replicate N (0 : Int)) wx from fun ga gb c1 c2 wx hk h1 h2 h3 h4 h5 => by
       have hl := HLO.out
       exact ⟨HKM.out.trans hk, HBM.out.keep hk (by simp), ⟨hl.1, hl.2.1⟩, hl.2.2.2, h1, h2, fun g hg => ⟨by have := h3 g hg; omega, by have := h3 g hg; omega, h5 g hg⟩, fun g hg => ⟨by have := h4 g hg; omega, by have := h4 g hg; omega⟩, Nat.le_refl _, _, HCM.out.keep hk (by simp), fun s v h => by cases h⟩)
      refine wp_region_held_drew (S := fun w' => w'.cell? ⟨B, 2, none⟩ = some (.slice fa N x.fc)) (by kernel_rfl) b2 (fun hHeld => ?_)
      have hb2d : wM.drew.cell? ⟨B, 2, none⟩ = some (.slice fa N x.fc) := b2
      refine take_on (i := 0) (v := ?_) rfl (by kernel_rfl) (by kernel_rfl) (by kernel_rfl) (fun _ _ _ h => h) (by rfl) (by assumption) ?_ ?_
      rotate_left
      ·((intro w hSw; (try dsimp only at hSw); go_simp <;> with_reducible rfl); done)
      try simp only [Act.put, List.setIfInBounds_toArray, List.set_cons_zero, List.set_cons_succ]
      refine take_on (i := 1) (v := ?_) rfl (by kernel_rfl) (by kernel_rfl) (by kernel_rfl) (fun _ _ _ h => h) (by rfl) (by assumption) ?_ ?_
      rotate_left
      ·((intro w hSw; (try dsimp only at hSw); go_simp <;> with_reducible rfl); done)
      try simp only [Act.put, List.setIfInBounds_toArray, List.set_cons_zero, List.set_cons_succ]
      refine take_on (i := 3) (v := ?_) rfl (by kernel_rfl) (by kernel_rfl) (by kernel_rfl) (fun _ _ _ h => h) (by rfl) (by assumption) ?_ ?_
      rotate_left
      ·((intro w hSw; (try dsimp only at hSw); go_simp <;> with_reducible rfl); done)
      try simp only [Act.put, List.setIfInBounds_toArray, List.set_cons_zero, List.set_cons_succ]
      refine take_on (i := 4) (v := ?_) rfl (by kernel_rfl) (by kernel_rfl) (by kernel_rfl) (fun _ _ _ h => h) (by rfl) (by assumption) ?_ ?_
      rotate_left
      ·((intro w hSw; (try dsimp only at hSw); go_simp <;> with_reducible rfl); done)
      try simp only [Act.put, List.setIfInBounds_toArray, List.set_cons_zero, List.set_cons_succ]
      refine take_on (i := 5) (v := ?_) rfl (by kernel_rfl) (by kernel_rfl) (by kernel_rfl) (fun _ _ _ h => h) (by rfl) (by assumption) ?_ ?_
      rotate_left
      ·((intro w hSw; (try dsimp only at hSw); go_simp <;> with_reducible rfl); done)
      try simp only [Act.put, List.setIfInBounds_toArray, List.set_cons_zero, List.set_cons_succ]
      refine branch_two (i := 2) (j := 6) rfl rfl (by kernel_rfl) (by rfl) (by rfl) (fun K hK => ?_) (fun K hK => ?_)
      ·go_simp
       with_reducible refine Calls.mono (HCL.out wM.drew ((Keeps.refl [] wM).drew)) ?_
       rintro e w5 ⟨ga, c1, rfl, hs5, hk5, hg5⟩
       have hk5' : Keeps [] wM w5 := ((Keeps.refl [] wM).drew).trans hk5
       have hb5 := hk5.cell hb2d (by simp)
       refine hK.out _ _ (hb5) (fun hHeld => ?_)
       clear hK K
       try simp only [Act.put, List.setIfInBounds_toArray, List.set_cons_zero, List.set_cons_succ]
       simp only [sv]
       have HS5 := Lib.hid hs5
       have HG5 := Lib.hid hg5
       have HK5 := Lib.hid hk5'
       clear hs5 hg5 hk5 hk5'
       refine take_on (i := 7) (v := ?_) rfl (by kernel_rfl) (by kernel_rfl) (by kernel_rfl) (fun _ _ _ h => h) (by rfl) (by assumption) ?_ ?_
       rotate_left
       ·((intro w hSw; (try dsimp only at hSw); go_simp <;> with_reducible rfl); done)
       try simp only [Act.put, List.setIfInBounds_toArray, List.set_cons_zero, List.set_cons_succ]
       refine branch_one (i := 6) rfl (by kernel_rfl) (by rfl) (fun K hK => ?_)
       go_simp
       have hka := Keeps.a1 w5 (.cells (Array.replicate N (.int .i64 0)) 3)
       have hsb := sl_zeros w5 N hN64
       have HCI := Lib.hid (HFIN2.out ga (some w5.heap.size) c1 N _ (HK5.out.trans hka) (HS5.out.keep hka (by simp)) hsb (fun g hg => HG5.out g hg) (fun g hg => by cases hg; exact HK5.out.size) (fun g hg h => by cases h; have h1 := HS5.out; rw [hg] at h1; have := h1.lt; omega))
       have HKX := Lib.hid (HK5.out.trans hka)
       have hb6 := hka.cell hb5 (by simp)
       clear hsb hka
       refine hK.out _ _ (hb6) (fun hHeld => ?_)
       clear hK K
       try simp only [Act.put, List.setIfInBounds_toArray, List.set_cons_zero, List.set_cons_succ]
       refine take_on (i := 8) (v := ?_) rfl (by kernel_rfl) (by kernel_rfl) (by kernel_rfl) (fun _ _ _ h => h) (by rfl) (by assumption) ?_ ?_
       rotate_left
       ·((intro w hSw; (try dsimp only at hSw); go_simp <;> with_reducible rfl); done)
       try simp only [Act.put, List.setIfInBounds_toArray, List.set_cons_zero, List.set_cons_succ]
       refine wpAnyH_done (by kernel_rfl) ?_ _
       go_wp2
       go_meet
       exact ⟨ga, some w5.heap.size, c1, N, rfl, rfl, HKX.out, HCI.out⟩
      ·go_simp
       obtain ⟨w4, hw4⟩ : ∃ w4, w4 = (wM.alloc (.cells (Array.replicate N (.int .i64 0)) 3)).drew := ⟨_, rfl⟩
       obtain ⟨g4, hg4⟩ : ∃ g4, g4 = wM.heap.size := ⟨_, rfl⟩
       have hka : Keeps [] wM w4 := by rw [hw4]; exact (Keeps.a1 wM _).drew
       have hsb : SliceAt w4 3 1 (some g4) N N ((List.replicate N (0 : Int)).map (Value.int .i64)) := by
        rw [hw4, hg4]
        exact (sl_zeros wM N hN64).keep ((Keeps.refl [] _).drew) (by simp)
       have hb6 := hka.cell b2 (by simp)
       have HG4 := Lib.hid hg4
       have HKA := Lib.hid hka
       have HSB := Lib.hid hsb
       rw [← hw4, ← hg4]
       clear hw4 hg4 hka hsb
       refine hK.out _ _ (hb6) (fun hHeld => ?_)
       clear hK K
       try simp only [Act.put, List.setIfInBounds_toArray, List.set_cons_zero, List.set_cons_succ]
       refine branch_one (i := 2) rfl (by kernel_rfl) (by rfl) (fun K hK => ?_)
       go_simp
       with_reducible refine Calls.mono (HCL.out w4 HKA.out) ?_
       rintro e w5 ⟨ga, c1, rfl, hs5, hk5, hg5⟩
       have hb7 := hk5.cell hb6 (by simp)
       have HCI := Lib.hid (HFIN2.out ga (some g4) c1 N w5 (HKA.out.trans hk5) hs5 (HSB.out.keep hk5 (by simp)) (fun g hg => by have h1 := hg5 g hg; have h2 := HKA.out.size; omega) (fun g hg => by cases hg; exact Nat.le_of_eq HG4.out.symm) (fun g hg h => by cases h; have h1 := hg5 _ hg; have h2 := HSB.out.lt; omega))
       have HKX := Lib.hid (HKA.out.trans hk5)
       clear hs5 hk5 hg5
       refine hK.out _ _ (hb7) (fun hHeld => ?_)
       clear hK K
       try simp only [Act.put, List.setIfInBounds_toArray, List.set_cons_zero, List.set_cons_succ]
       simp only [sv]
       refine take_on (i := 7) (v := ?_) rfl (by kernel_rfl) (by kernel_rfl) (by kernel_rfl) (fun _ _ _ h => h) (by rfl) (by assumption) ?_ ?_
       rotate_left
       ·((intro w hSw; (try dsimp only at hSw); go_simp <;> with_reducible rfl); done)
       try simp only [Act.put, List.setIfInBounds_toArray, List.set_cons_zero, List.set_cons_succ]
       refine take_on (i := 8) (v := ?_) rfl (by kernel_rfl) (by kernel_rfl) (by kernel_rfl) (fun _ _ _ h => h) (by rfl) (by assumption) ?_ ?_
       rotate_left
       ·((intro w hSw; (try dsimp only at hSw); go_simp <;> with_reducible rfl); done)
       try simp only [Act.put, List.setIfInBounds_toArray, List.set_cons_zero, List.set_cons_succ]
       refine wpAnyH_done (by kernel_rfl) ?_ _
       go_wp2
       go_meet
       exact ⟨ga, some g4, c1, N, rfl, rfl, HKX.out, HCI.out⟩
     case rest =>
      obtain ⟨ga, gb, ca_, cb, rfl, rfl, hkx, hci⟩ := hcut
      obtain ⟨wX, hwX⟩ : ∃ wX : World, wX = wc := ⟨_, rfl⟩
      subst hwX
      have HFB := Lib.hid (show ∀ v ∈ first, 0 ≤ v ∧ v ≤ 1099511627777 from fun v hv => by
       have h := HOK.out.first v (by rw [← HFA.out.2]; exact hv)
       omega)
      have hsum := sum_any (ga.map fun g => ⟨g, 0, none⟩) ca_ first wX hci.sa.to_in (by rw [← HNN.out]; exact hN64) HFB.out
      rw [← HNN.out] at hsum
      have HSUM := Lib.hid hsum
      have t0 := hkx.cell t0 (by simp)
      have HCI := Lib.hid hci
      have HTRX := Lib.hid (hkx.heap HTRM.out (by simp))
      obtain ⟨V, hV⟩ : ∃ V, V = cloop edges cls text first := ⟨_, rfl⟩
      have HV2 := Lib.hid hV
      clear hsum hkx hci hV b2
      go_wp2_with fail
      refine Calls.mono HSUM.out ?_
      rintro e w6 ⟨rfl, rfl⟩
      obtain ⟨w7, hw7⟩ : ∃ w7, w7 = wX.alloc (.cells #[.int .i64 0] 3) := ⟨_, rfl⟩
      obtain ⟨ib, hib⟩ : ∃ ib, ib = wX.heap.size := ⟨_, rfl⟩
      have hk7 : Keeps [] wX w7 := by rw [hw7]; exact Keeps.a1 _ _
      have hb7 : w7.heap[ib]? = some (.cells #[.int .i64 0] 3 (0, 0)) := by rw [hw7, hib]; exact heap_alloc_new _ _
      have HB7 := Lib.hid hb7
      have HC7 := Lib.hid (HCI.out.keep hk7 (by simp))
      have HIB := Lib.hid (show cmb < ib ∧ ga ≠ some ib ∧ gb ≠ some ib from by
       obtain ⟨gm, h1, _⟩ := HCI.out.cm
       have h2 := h1.lt
       refine ⟨by omega, fun h => ?_, fun h => ?_⟩
       ·have h3 := HCI.out.sa; rw [h] at h3; have := h3.lt; omega
       ·have h3 := HCI.out.sb; rw [h] at h3; have := h3.lt; omega)
      have HFV := Lib.hid (show R = if 1099511627776 < V.sum then (0, 4) else (V.sum, 0) from by
       rw [HF.out, countV, HV2.out, HEA.out.2, HCA.out.2, HFA.out.2])
      have HW7 := Lib.hid hw7
      have HIB7 := Lib.hid hib
      clear hw7 hib hk7 hb7
      go_upto_region 16 with fail
      rw [← HW7.out, ← HIB7.out]
      have T0 := Lib.hid t0
      clear t0
      go_wp2
      go_loopw [11, 12, 13, 14] (fun v11 v12 v13 v14 wr => ∃ (k : Nat) (ga : Option Nat) (c1 : Nat) (cs : List Int) (gb : Option Nat) (c2 : Nat) (ds : List Int) (ib : Nat), v11 = .slice (ga.map fun g => ⟨g, 0, none⟩) N c1 ∧ v12 = .slice (gb.map fun g => ⟨g, 0, none⟩) N c2 ∧ v13 = .int .i64 cs.sum ∧ v14 = .pointer (some ⟨ib, 0, none⟩) ∧ k ≤ text.length ∧ (cs.length = N ∧ ds.length = N ∧ (∀ v ∈ cs, 0 ≤ v ∧ v ≤ 1099511627777)) ∧ cloop edges cls (text.drop k) cs = V ∧ wr.heap[ib]? = some (.cells #[.int .i64 k] 3 (0, 0)) ∧ (cmb < ib ∧ ga ≠ some ib ∧ gb ≠ some ib) ∧ CI w1 cmb mb cmb sl edges cls N k ga c1 cs gb c2 ds wr) (fun _ _ _ v14 w => text.length - ptInt v14 w)
      case atStart => exact ⟨0, ga, ca_, first, gb, cb, _, ib, rfl, rfl, rfl, rfl, Nat.zero_le _, ⟨HNN.out.symm, by simp, HFB.out⟩, HV2.out.symm, HB7.out, HIB.out, HC7.out⟩
      case round =>
       clear HC7 HB7 HIB HCI HTRX HSUM
       obtain ⟨k, ga, c1, cs, gb, c2, ds, ib, rfl, rfl, rfl, rfl, hk, hcs, hVk, hbk, hibk, hck⟩ := hrel
       obtain ⟨wB, hwB⟩ : ∃ wB : World, wB = wr := ⟨_, rfl⟩
       subst hwB
       have HCK := Lib.hid hck
       have HBK := Lib.hid hbk
       have HIBK := Lib.hid hibk
       have HVK := Lib.hid hVk
       have HCS := Lib.hid hcs
       have HKQ := Lib.hid (show Keeps [] w wB from HK1.out.trans hck.kp)
       have ht0 := hck.kp.heap HTR1.out (by simp)
       have t0 : wB.cell? ⟨B + 1, 0, none⟩ = some (.slice ta text.length tc) := by simp [World.cell?, ht0]
       have i0 : wB.cell? ⟨ib, 0, none⟩ = some (.int .i64 k) := by simp [World.cell?, hbk]
       have if0 : wB.frozen? ⟨ib, 0, none⟩ = false := by simp [World.frozen?, hbk]
       clear hck hbk hibk hVk hcs ht0
       by_cases hkl : k < text.length
       ·obtain ⟨s, hs⟩ : ∃ s, s = text.getD k 0 := ⟨_, rfl⟩
        have hdr : text.drop k = s :: text.drop (k + 1) := by
         rw [List.drop_eq_getElem_cons hkl, hs, List.getD_eq_getElem?_getD, List.getElem?_eq_getElem hkl]; rfl
        have HDR := Lib.hid hdr
        have HS := Lib.hid hs
        clear hdr hs
        by_cases hs0 : cs.sum = 0
        ·have hs0b : (cs.sum != 0) = false := by simp [hs0]
         have HVC := Lib.hid (show V = cs from by rw [← HVK.out, HDR.out, cloop, if_pos (.inl hs0)])
         have HFE := Lib.hid (show R = (cs.sum, 0) by rw [HFV.out, HVC.out, if_neg (by omega)])
         clear HCK HBK
         go_wp2
         rw [HQ.out, HFE.out]
         exact ⟨by first | rfl | (rw [hs0]; rfl), HKQ.out⟩
        ·have hs0b : (cs.sum != 0) = true := by simp [hs0]
         by_cases hsM : cs.sum ≤ 1099511627776
         ·have hN0 : 0 < N := by
           rw [← HCS.out.1]
           cases hc : cs with
           | nil => rw [hc] at hs0; simp at hs0
           | cons a l => simp
          obtain ⟨g1, rfl⟩ : ∃ g, ga = some g := by
           cases ga with
           | none => have := HCK.out.sa.2.1; omega
           | some g => exact ⟨g, rfl⟩
          obtain ⟨g2, rfl⟩ : ∃ g, gb = some g := by
           cases gb with
           | none => have := HCK.out.sb.2.1; omega
           | some g => exact ⟨g, rfl⟩
          simp only [Option.map_some]
          obtain ⟨tb, toff, rfl, htc⟩ := (HT1.out.keep HCK.out.kp) (by omega)
          have s0 := htc k hkl
          rw [← HS.out] at s0
          have hs64 : M64 s := HI.out s (by rw [HS.out, List.getD_eq_getElem?_getD, List.getElem?_eq_getElem hkl]; exact List.getElem_mem hkl)
          obtain ⟨gm, hmap, hgm⟩ := HCK.out.cm
          have hl := hmap.look (t := 81) true intKeyed Tryd.underlying81 (z := .int .i64 0) (by kernel_rfl) (keyI hs64)
          simp only [if_true] at hl
          obtain ⟨c0, hc0, hc1⟩ : ∃ c0, (gm (.int .i64 s)).getD (.int .i64 0) = .int .i64 c0 ∧ ((gm (.int .i64 s)).isSome = true → c0 = clsOf cls s) := by
           cases hgs : gm (.int .i64 s) with
           | none => exact ⟨0, rfl, fun h => by cases h⟩
           | some v => have := hgm s v hgs; subst this; exact ⟨_, rfl, fun _ => rfl⟩
          rw [hc0] at hl
          obtain ⟨okb, hokb⟩ : ∃ okb, okb = (gm (.int .i64 s)).isSome := ⟨_, rfl⟩
          rw [← hokb] at hl hc1
          have HC1 := Lib.hid hc1
          have HMAP := Lib.hid hmap
          have HGM := Lib.hid hgm
          have HS64 := Lib.hid hs64
          have HTC := Lib.hid htc
          have hCLI := HX1.out.cls
          have hcln : cls.length ≤ 1000000000000 := by rw [HCA.out.2]; exact HX1.out.lc
          have HIX := Lib.hid (indexC_any s (B + 1) ib tb toff tc text.length k ca x.cc cls wB t0 i0 hkl s0 (by rw [HCA.out.1, HCA.out.2]; exact HX1.out.cls.keep HCK.out.kp) (by rw [HCA.out.2]; exact fun k hk => ⟨(HX1.out.sp k hk).keep HCK.out.kp, HX1.out.ls k hk⟩) hcln)
          obtain ⟨b0, _⟩ := row_cells4 (HCK.out.kp.heap HRW1.out (by simp))
          rw [← HCA.out.1, ← HCA.out.2] at b0
          clear hmap hgm hc0 hc1 hokb htc hs64 hCLI hcln
          go_upto_if 81 with fail
          go_cut [15] (fun s15 wx => s15 = .int .i64 (clsOf cls s) ∧ ∃ wY : World, wY = wx ∧ wY.heap[ib]? = some (.cells #[.int .i64 k] 3 (0, 0)) ∧ CI w1 cmb mb cmb sl edges cls N (k + 1) (some g1) c1 cs (some g2) c2 ds wY)
          case first =>
           cases okb with
           | true =>
            have HC0 := Lib.hid (HC1.out rfl)
            clear hl
            go_wp2
            go_meet
            exact ⟨by rw [HC0.out], wB, rfl, HBK.out, HCK.out.less (Nat.le_succ k)⟩
           | false =>
            go_wp2_with fail
            refine Calls.mono HIX.out ?_
            rintro e w5 ⟨rfl, hk5⟩
            obtain ⟨w6, hrun6, hm6, hk6⟩ := (HMAP.out.keep hk5 (by simp)).put intKeyed Tryd.underlying81 (by unfold maxLen; omega) (.int .i64 (clsOf cls s)) (keyI HS64.out)
            have t0 := hk5.cell t0 (by simp)
            have i0 := hk5.cell i0 (by simp)
            have s0 := hk5.cell s0 (by simp)
            have HC6 := Lib.hid ((HCK.out.keep hk5 (by simp)).known hk6 hm6 HGM.out)
            have HB6 := Lib.hid (hk6.heap (hk5.heap HBK.out (by simp)) (by simp; have := HIBK.out.1; omega))
            clear hk5 hm6 hk6 hl
            go_wp2
            go_meet
            exact ⟨rfl, w6, rfl, HB6.out, HC6.out⟩
          case rest =>
           obtain ⟨rfl, wY, rfl, hby, hcy⟩ := hcut
           obtain ⟨cl, hcl⟩ : ∃ cl, cl = clsOf cls s := ⟨_, rfl⟩
           obtain ⟨wZ, hrunZ, hsZ, hkZ⟩ := run_clear_sl hcy.sb Tryd.underlying22 (fun w => by kernel_rfl)
           have hcz := hcy.setB rfl hkZ (ds' := List.replicate N (0 : Int)) (by rw [List.map_replicate]; exact hsZ)
           have hbz := hkZ.heap hby (by simp; intro e; exact HIBK.out.2.2 (by rw [e]))
           have hcl64 : M64 cl := by
            rw [hcl]
            unfold clsOf
            split
            ·rename_i i hi
             have hcn : cls.length ≤ 1000000000000 := by rw [HCA.out.2]; exact HX1.out.lc
             rw [List.findIdx?_eq_some_iff_getElem] at hi
             obtain ⟨hi, _⟩ := hi
             exact ⟨by omega, by omega⟩
            ·exact ⟨by omega, by omega⟩
           obtain ⟨gmb, hmb1, hmb2⟩ := hcz.byc.map
           have hlb := hmb1.look (t := 80) false intKeyed Tryd.underlying80 (z := .slice none 0 0) (by kernel_rfl) (keyI hcl64)
           have hval : (gmb (.int .i64 cl)).getD (.slice none 0 0) = sv (sl cl).1 (selC edges cl).length (sl cl).2 := by
            rw [hmb2 cl]
            split
            ·rename_i hnil
             rw [hcz.byc.nil cl hnil, hnil]; rfl
            ·rfl
           rw [hval] at hlb
           simp only [Bool.false_eq_true, if_false, sv] at hlb
           obtain ⟨L, hL⟩ : ∃ L, L = selC edges cl := ⟨_, rfl⟩
           obtain ⟨la, hla⟩ : ∃ la, la = (sl cl).1.map fun g => (⟨g, 0, none⟩ : Addr) := ⟨_, rfl⟩
           obtain ⟨lc, hlc⟩ : ∃ lc, lc = (sl cl).2 := ⟨_, rfl⟩
           rw [← hL, ← hla, ← hlc] at hlb
           rw [← hcl]
           have HLL := Lib.hid hL
           have HLA := Lib.hid hla
           have HCLE := Lib.hid hcl
           have HCZ := Lib.hid hcz
           have HBZ := Lib.hid hbz
           have hLn : L.length ≤ 65536 := by rw [hL]; have := selC_le edges cl; omega
           clear hcl hsZ hcz hbz hcl64 hmb1 hmb2 hval hL hla hlc hby hcy hkZ hl t0 i0 if0 s0 b0
           go_wp2
           go_loopw [97] (fun v wr => ∃ (q : Nat) (ds : List Int), v = .int .i64 q ∧ q ≤ L.length ∧ ds = (L.take q).foldl (cw cs) (List.replicate N (0 : Int)) ∧ wr.heap[ib]? = some (.cells #[.int .i64 k] 3 (0, 0)) ∧ CI w1 cmb mb cmb sl edges cls N (k + 1) (some g1) c1 cs (some g2) c2 ds wr) (fun v _ => L.length - (intOf v).toNat)
           case atStart => exact ⟨0, _, rfl, Nat.zero_le _, rfl, HBZ.out, HCZ.out⟩
           case round =>
            obtain ⟨q, ds, rfl, hq, hds, hbq, hcq⟩ := hrel
            obtain ⟨wC, hwC⟩ : ∃ wC : World, wC = wr := ⟨_, rfl⟩
            subst hwC
            have HCQ := Lib.hid hcq
            have HBQ := Lib.hid hbq
            have HDS := Lib.hid hds
            have HDB := Lib.hid (show ∀ v ∈ ds, 0 ≤ v ∧ v ≤ 1099511627777 from by
             rw [hds]
             exact cwf_bd (fun v hv => (HCS.out.2.2 v hv).1) (fun e he => (HEE.out e (mem_selC (c := cl) (by rw [← HLL.out]; exact List.mem_of_mem_take he))).2.2.2.1) (fun v hv => by rw [List.eq_of_mem_replicate hv]; omega))
            by_cases hqn : q < L.length
            ·obtain ⟨eb, eoff, hlae, hec⟩ := (show EdIn wC la L from by
              have h := (hcq.byc.sls cl).edIn rfl
              rw [← HLA.out, ← HLL.out] at h
              exact h) (by omega)
             subst hlae
             obtain ⟨e0, e1, e2, e3⟩ := hec q hqn
             have hoe := HEE.out L[q] (mem_selC (c := cl) (by rw [← HLL.out]; exact List.getElem_mem hqn))
             have htk : L.take (q + 1) = L.take q ++ [L[q]] := List.take_succ_eq_append_getElem hqn
             obtain ⟨ed, hede⟩ : ∃ ed, ed = L[q] := ⟨_, rfl⟩
             rw [← hede] at e0 e1 e2 e3 hoe htk
             obtain ⟨ef, et, ek, ew⟩ := ed
             simp only at e0 e1 e2 e3 hoe
             obtain ⟨⟨hf0, hf1⟩, ⟨ht0, ht1⟩, _, hw0, hw1⟩ := hoe
             obtain ⟨f, rfl⟩ := Int.eq_ofNat_of_zero_le hf0
             obtain ⟨t, rfl⟩ := Int.eq_ofNat_of_zero_le ht0
             have hfN : f < N := by have := HNN.out; omega
             have htN : t < N := by have := HNN.out; omega
             have hdl : ds.length = N := by have h := hcq.sb.1; simpa using h
             have hcl_ := HCS.out.1
             have n0 := hcq.sa.cell f (by simp; omega)
             have d0 := hcq.sb.cell t (by simp; omega)
             have df := hcq.sb.fz t
             rw [List.getElem_map] at n0 d0
             have hnb := HCS.out.2.2 (cs[f]'(by omega)) (List.getElem_mem _)
             have HNX := Lib.hid (show (L.take (q + 1)).foldl (cw cs) (List.replicate N (0 : Int)) = ds.set t (if 1099511627776 / ew < cs[f]'(by omega) then 1099511627777 else min ((ds[t]'(by omega)) + cs[f]'(by omega) * ew) 1099511627777) from by
              rw [htk, List.foldl_append, ← hds]
              simp only [List.foldl_cons, List.foldl_nil, cw, Int.toNat_natCast]
              rw [List.getD_eq_getElem?_getD, List.getElem?_eq_getElem (by omega), Option.getD_some, List.getD_eq_getElem?_getD, List.getElem?_eq_getElem (by omega), Option.getD_some])
             obtain ⟨nv, hnv⟩ : ∃ nv, nv = cs[f]'(by omega) := ⟨_, rfl⟩
             obtain ⟨dt, hdt⟩ : ∃ dt, dt = ds[t]'(by omega) := ⟨_, rfl⟩
             rw [← hnv] at n0 hnb
             rw [← hdt] at d0
             rw [← hnv, ← hdt] at HNX
             obtain ⟨D, hD⟩ : ∃ D, D = wC.heap.size := ⟨_, rfl⟩
             obtain ⟨Z, hZ⟩ : ∃ Z, Z = wC.alloc (.cells #[.int .i64 (f : Nat), .int .i64 (t : Nat), .int .i64 ek, .int .i64 ew] 48) := ⟨_, rfl⟩
             have hkZ : Keeps [] wC Z := by rw [hZ]; exact Keeps.a1 _ _
             have hZH : Z.heap[D]? = some (.cells #[.int .i64 (f : Nat), .int .i64 (t : Nat), .int .i64 ek, .int .i64 ew] 48 (0, 0)) := by rw [hZ, hD]; exact heap_alloc_new wC _
             have z0 : Z.cell? ⟨D, 0, none⟩ = some (.int .i64 (f : Nat)) := by simp [World.cell?, hZH]
             have z1 : Z.cell? ⟨D, 1, none⟩ = some (.int .i64 (t : Nat)) := by simp [World.cell?, hZH]
             have z3 : Z.cell? ⟨D, 3, none⟩ = some (.int .i64 ew) := by simp [World.cell?, hZH]
             have hg2D : g2 ≠ D := by
              have h := hcq.sb.lt
              omega
             have HZ4 := Lib.hid (show ∀ (v : Value) (i : Nat) (u : Value), Z.drew.cell? ⟨D, i, none⟩ = some u → (Z.drew.setCell ⟨g2, t, none⟩ v).cell? ⟨D, i, none⟩ = some u from fun v i u h => ((Keeps.refl [g2] Z.drew).setCell (by simp) v).cell h (by simpa using hg2D.symm))
             have HEND := Lib.hid (show ∀ W, Keeps [] Z W → ∀ v, v = (if 1099511627776 / ew < nv then 1099511627777 else min (dt + nv * ew) 1099511627777) → ds.set t v = (L.take (q + 1)).foldl (cw cs) (List.replicate N (0 : Int)) ∧ (W.setCell ⟨g2, t, none⟩ (.int .i64 v)).heap[ib]? = some (.cells #[.int .i64 k] 3 (0, 0)) ∧ CI w1 cmb mb cmb sl edges cls N (k + 1) (some g1) c1 cs (some g2) c2 (ds.set t v) (W.setCell ⟨g2, t, none⟩ (.int .i64 v)) from fun W hW v hv => by
              have hks : Keeps [g2] W (W.setCell ⟨g2, t, none⟩ (.int .i64 v)) := (Keeps.refl [g2] W).setCell (by simp) _
              have h1 := HCQ.out.keep (hkZ.trans hW) (by simp)
              refine ⟨by rw [HNX.out, hv], hks.heap ((hkZ.trans hW).heap HBQ.out (by simp)) (by simp; intro e; exact HIBK.out.2.2 (by rw [e])), h1.setB rfl hks ?_⟩
              have h2 := h1.sb.set t (.int .i64 v)
              rw [List.map_set]
              exact h2)
             have n0 := hkZ.cell n0 (by simp)
             have d0 := hkZ.cell d0 (by simp)
             have df : Z.frozen? ⟨g2, t, none⟩ = false := (HCQ.out.keep hkZ (by simp)).sb.fz t
             have hwz : (ew == 0) = false := by simp; omega
             have hquo : Int.tdiv 1099511627776 ew = 1099511627776 / ew := Int.tdiv_eq_ediv_of_nonneg (by omega)
             have hq0 : 0 ≤ 1099511627776 / ew := Int.ediv_nonneg (by omega) (by omega)
             have hq1 : 1099511627776 / ew ≤ 1099511627776 := Int.ediv_le_self _ (by omega)
             have hqe : nv ≤ 1099511627776 / ew → nv * ew ≤ 1099511627776 := fun h => Int.le_trans (Int.mul_le_mul_of_nonneg_right h (by omega)) (Int.ediv_mul_le _ (by omega))
             have HQE := Lib.hid hqe
             obtain ⟨qv, hqv⟩ : ∃ qv, qv = 1099511627776 / ew := ⟨_, rfl⟩
             rw [← hqv] at hquo hq0 hq1 HEND HQE
             have hqw : IntKind.i64.wrap qv = qv := IntWalk.i64_in _ (by omega)
             have hdtb : 0 ≤ dt ∧ dt ≤ 1099511627777 := HDB.out dt (by rw [hdt]; exact List.getElem_mem _)
             have HZE := Lib.hid hZ
             have HDE := Lib.hid hD
             clear hec hede htk hcq hbq hds hnv hdt hZ hD hkZ hZH hqe hqv hdl hcl_ hf0 hf1 ht0 ht1
             go_upto_region 26 with fail
             rw [← HZE.out, ← HDE.out]
             clear e0 e1 e2 e3
             by_cases hgt : qv < nv
             ·have HE := Lib.hid (HEND.out Z (Keeps.refl [] Z) 1099511627777 (by rw [if_pos hgt]))
              go_wp2
              go_roundw
              case rel => exact ⟨q + 1, ds.set t 1099511627777, by go_num, hqn, HE.out.1, HE.out.2.1, HE.out.2.2⟩
              case measure => simp [intOf]; omega
             ·have hprod := HQE.out (by omega)
              have hp0 : 0 ≤ nv * ew := Int.mul_nonneg hnb.1 (by omega)
              obtain ⟨pv, hpv⟩ : ∃ pv, pv = nv * ew := ⟨_, rfl⟩
              rw [← hpv] at hprod hp0 HEND
              have hwp : IntKind.i64.wrap (nv * ew) = pv := by rw [← hpv, IntWalk.i64_in _ (by omega)]
              have hws : IntKind.i64.wrap (dt + pv) = dt + pv := IntWalk.i64_in _ (by omega)
              clear hpv
              go_upto_region 29 with fail
              by_cases hxy : dt + pv < 1099511627777
              ·have hxy2 : ¬ (1099511627777 < dt + pv) := by omega
               have hxy3 : ¬ (1099511627777 ≤ dt + pv) := by omega
               have hxy4 : dt + pv ≤ 1099511627777 := by omega
               have hxy5 : ¬ (dt + pv = 1099511627777) := by omega
               refine wp_region_held_drew (S := fun w' => (w'.cell? ⟨D, 1, none⟩ = some (.int .i64 t) ∧ w'.cell? ⟨D, 3, none⟩ = some (.int .i64 ew))) (by kernel_rfl) ⟨z1, z3⟩ (fun hHeld => ?_)
               have d0 : Z.drew.cell? ⟨g2, t, none⟩ = some (.int .i64 dt) := d0
               have df : Z.drew.frozen? ⟨g2, t, none⟩ = false := df
               have z1 : Z.drew.cell? ⟨D, 1, none⟩ = some (.int .i64 t) := z1
               have z3 : Z.drew.cell? ⟨D, 3, none⟩ = some (.int .i64 ew) := z3
               refine take_on (i := 0) (v := ?_) rfl (by kernel_rfl) (by kernel_rfl) (by kernel_rfl) (fun _ _ _ h => h) (by rfl) (by assumption) ?_ ?_
               rotate_left
               ·((intro w hSw; (try dsimp only at hSw); go_simp <;> with_reducible rfl); done)
               try simp only [Act.put, List.setIfInBounds_toArray, List.set_cons_zero, List.set_cons_succ]
               refine take_on (i := 1) (v := ?_) rfl (by kernel_rfl) (by kernel_rfl) (by kernel_rfl) (fun _ _ _ h => h) (by rfl) (by assumption) ?_ ?_
               rotate_left
               ·((intro w hSw; (try dsimp only at hSw); go_simp <;> with_reducible rfl); done)
               try simp only [Act.put, List.setIfInBounds_toArray, List.set_cons_zero, List.set_cons_succ]
               refine take_on (i := 2) (v := ?_) rfl (by kernel_rfl) (by kernel_rfl) (by kernel_rfl) (fun _ _ _ h => h) (by rfl) (by assumption) ?_ ?_
               rotate_left
               ·((intro w hSw; (try dsimp only at hSw); go_simp <;> with_reducible rfl); done)
               try simp only [Act.put, List.setIfInBounds_toArray, List.set_cons_zero, List.set_cons_succ]
               refine take_on (i := 3) (v := ?_) rfl (by kernel_rfl) (by kernel_rfl) (by kernel_rfl) (fun _ _ _ h => h) (by rfl) (by assumption) ?_ ?_
               rotate_left
               ·((intro w hSw; (try dsimp only at hSw); go_simp <;> with_reducible rfl); done)
               try simp only [Act.put, List.setIfInBounds_toArray, List.set_cons_zero, List.set_cons_succ]
               refine take_on (i := 4) (v := ?_) rfl (by kernel_rfl) (by kernel_rfl) (by kernel_rfl) (fun _ _ _ h => h) (by rfl) (by assumption) ?_ ?_
               rotate_left
               ·((intro w hSw; (try dsimp only at hSw); go_simp <;> with_reducible rfl); done)
               try simp only [Act.put, List.setIfInBounds_toArray, List.set_cons_zero, List.set_cons_succ]
               refine take_on (i := 5) (v := ?_) rfl (by kernel_rfl) (by kernel_rfl) (by kernel_rfl) (fun _ _ _ h => h) (by rfl) (by assumption) ?_ ?_
               rotate_left
               ·((intro w hSw; (try dsimp only at hSw); go_simp <;> with_reducible rfl); done)
               try simp only [Act.put, List.setIfInBounds_toArray, List.set_cons_zero, List.set_cons_succ]
               refine take_on (i := 6) (v := ?_) rfl (by kernel_rfl) (by kernel_rfl) (by kernel_rfl) (fun _ _ _ h => h) (by rfl) (by assumption) ?_ ?_
               rotate_left
               ·((intro w hSw; (try dsimp only at hSw); go_simp <;> with_reducible rfl); done)
               try simp only [Act.put, List.setIfInBounds_toArray, List.set_cons_zero, List.set_cons_succ]
               refine take_on (i := 8) (v := ?_) rfl (by kernel_rfl) (by kernel_rfl) (by kernel_rfl) (fun _ _ _ h => h) (by rfl) (by assumption) ?_ ?_
               rotate_left
               ·((intro w hSw; (try dsimp only at hSw); go_simp <;> with_reducible rfl); done)
               try simp only [Act.put, List.setIfInBounds_toArray, List.set_cons_zero, List.set_cons_succ]
               refine take_on (i := 9) (v := ?_) rfl (by kernel_rfl) (by kernel_rfl) (by kernel_rfl) (fun _ _ _ h => h) (by rfl) (by assumption) ?_ ?_
               rotate_left
               ·((intro w hSw; (try dsimp only at hSw); go_simp <;> with_reducible rfl); done)
               try simp only [Act.put, List.setIfInBounds_toArray, List.set_cons_zero, List.set_cons_succ]
               refine take_on (i := 10) (v := ?_) rfl (by kernel_rfl) (by kernel_rfl) (by kernel_rfl) (fun _ _ _ h => h) (by rfl) (by assumption) ?_ ?_
               rotate_left
               ·((intro w hSw; (try dsimp only at hSw); go_simp <;> with_reducible rfl); done)
               try simp only [Act.put, List.setIfInBounds_toArray, List.set_cons_zero, List.set_cons_succ]
               refine take_on (i := 11) (v := ?_) rfl (by kernel_rfl) (by kernel_rfl) (by kernel_rfl) (fun _ _ _ h => h) (by rfl) (by assumption) ?_ ?_
               rotate_left
               ·((intro w hSw; (try dsimp only at hSw); go_simp <;> with_reducible rfl); done)
               try simp only [Act.put, List.setIfInBounds_toArray, List.set_cons_zero, List.set_cons_succ]
               refine branch_one (i := 7) rfl (by kernel_rfl) (by rfl) (fun K hK => ?_)
               go_simp
               refine hK.out _ _ (⟨z1, z3⟩) (fun hHeld => ?_)
               clear hK K
               try simp only [Act.put, List.setIfInBounds_toArray, List.set_cons_zero, List.set_cons_succ]
               refine take_on (i := 12) (v := ?_) rfl (by kernel_rfl) (by kernel_rfl) (by kernel_rfl) (fun _ _ _ h => h) (by rfl) (by assumption) ?_ ?_
               rotate_left
               ·((intro w hSw; (try dsimp only at hSw); go_simp <;> with_reducible rfl); done)
               try simp only [Act.put, List.setIfInBounds_toArray, List.set_cons_zero, List.set_cons_succ]
               refine take_on (i := 13) (v := ?_) rfl (by kernel_rfl) (by kernel_rfl) (by kernel_rfl) (fun _ _ _ h => h) (by rfl) (by assumption) ?_ ?_
               rotate_left
               ·((intro w hSw; (try dsimp only at hSw); go_simp <;> with_reducible rfl); done)
               try simp only [Act.put, List.setIfInBounds_toArray, List.set_cons_zero, List.set_cons_succ]
               refine take_on (i := 14) (v := ?_) rfl (by kernel_rfl) (by kernel_rfl) (by kernel_rfl) (fun _ _ _ h => h) (by rfl) (by assumption) ?_ ?_
               rotate_left
               ·((intro w hSw; (try dsimp only at hSw); go_simp <;> with_reducible rfl); done)
               try simp only [Act.put, List.setIfInBounds_toArray, List.set_cons_zero, List.set_cons_succ]
               refine branch_one (i := 15) rfl (by kernel_rfl) (by rfl) (fun K hK => ?_)
               go_simp
               refine hK.out _ _ (⟨HZ4.out _ _ _ z1, HZ4.out _ _ _ z3⟩) (fun hHeld => ?_)
               clear hK K
               try simp only [Act.put, List.setIfInBounds_toArray, List.set_cons_zero, List.set_cons_succ]
               refine wpAnyH_done (by kernel_rfl) ?_ _
               have HE := Lib.hid (HEND.out Z.drew ((Keeps.refl [] Z).drew) (dt + pv) (by rw [if_neg hgt]; omega))
               clear z1 z3 d0 df
               go_wp2
               go_roundw
               case rel => exact ⟨q + 1, ds.set t (dt + pv), by go_num, hqn, HE.out.1, HE.out.2.1, HE.out.2.2⟩
               case measure => simp [intOf]; omega
              ·by_cases hxe : dt + pv = 1099511627777
               ·have hxy2 : ¬ (1099511627777 < dt + pv) := by omega
                have hxy4 : dt + pv ≤ 1099511627777 := by omega
                refine wp_region_held_drew (S := fun w' => (w'.cell? ⟨D, 1, none⟩ = some (.int .i64 t) ∧ w'.cell? ⟨D, 3, none⟩ = some (.int .i64 ew))) (by kernel_rfl) ⟨z1, z3⟩ (fun hHeld => ?_)
                have d0 : Z.drew.cell? ⟨g2, t, none⟩ = some (.int .i64 dt) := d0
                have df : Z.drew.frozen? ⟨g2, t, none⟩ = false := df
                have z1 : Z.drew.cell? ⟨D, 1, none⟩ = some (.int .i64 t) := z1
                have z3 : Z.drew.cell? ⟨D, 3, none⟩ = some (.int .i64 ew) := z3
                refine take_on (i := 0) (v := ?_) rfl (by kernel_rfl) (by kernel_rfl) (by kernel_rfl) (fun _ _ _ h => h) (by rfl) (by assumption) ?_ ?_
                rotate_left
                ·((intro w hSw; (try dsimp only at hSw); go_simp <;> with_reducible rfl); done)
                try simp only [Act.put, List.setIfInBounds_toArray, List.set_cons_zero, List.set_cons_succ]
                refine take_on (i := 1) (v := ?_) rfl (by kernel_rfl) (by kernel_rfl) (by kernel_rfl) (fun _ _ _ h => h) (by rfl) (by assumption) ?_ ?_
                rotate_left
                ·((intro w hSw; (try dsimp only at hSw); go_simp <;> with_reducible rfl); done)
                try simp only [Act.put, List.setIfInBounds_toArray, List.set_cons_zero, List.set_cons_succ]
                refine take_on (i := 2) (v := ?_) rfl (by kernel_rfl) (by kernel_rfl) (by kernel_rfl) (fun _ _ _ h => h) (by rfl) (by assumption) ?_ ?_
                rotate_left
                ·((intro w hSw; (try dsimp only at hSw); go_simp <;> with_reducible rfl); done)
                try simp only [Act.put, List.setIfInBounds_toArray, List.set_cons_zero, List.set_cons_succ]
                refine take_on (i := 3) (v := ?_) rfl (by kernel_rfl) (by kernel_rfl) (by kernel_rfl) (fun _ _ _ h => h) (by rfl) (by assumption) ?_ ?_
                rotate_left
                ·((intro w hSw; (try dsimp only at hSw); go_simp <;> with_reducible rfl); done)
                try simp only [Act.put, List.setIfInBounds_toArray, List.set_cons_zero, List.set_cons_succ]
                refine take_on (i := 4) (v := ?_) rfl (by kernel_rfl) (by kernel_rfl) (by kernel_rfl) (fun _ _ _ h => h) (by rfl) (by assumption) ?_ ?_
                rotate_left
                ·((intro w hSw; (try dsimp only at hSw); go_simp <;> with_reducible rfl); done)
                try simp only [Act.put, List.setIfInBounds_toArray, List.set_cons_zero, List.set_cons_succ]
                refine take_on (i := 5) (v := ?_) rfl (by kernel_rfl) (by kernel_rfl) (by kernel_rfl) (fun _ _ _ h => h) (by rfl) (by assumption) ?_ ?_
                rotate_left
                ·((intro w hSw; (try dsimp only at hSw); go_simp <;> with_reducible rfl); done)
                try simp only [Act.put, List.setIfInBounds_toArray, List.set_cons_zero, List.set_cons_succ]
                refine take_on (i := 6) (v := ?_) rfl (by kernel_rfl) (by kernel_rfl) (by kernel_rfl) (fun _ _ _ h => h) (by rfl) (by assumption) ?_ ?_
                rotate_left
                ·((intro w hSw; (try dsimp only at hSw); go_simp <;> with_reducible rfl); done)
                try simp only [Act.put, List.setIfInBounds_toArray, List.set_cons_zero, List.set_cons_succ]
                refine take_on (i := 8) (v := ?_) rfl (by kernel_rfl) (by kernel_rfl) (by kernel_rfl) (fun _ _ _ h => h) (by rfl) (by assumption) ?_ ?_
                rotate_left
                ·((intro w hSw; (try dsimp only at hSw); go_simp <;> with_reducible rfl); done)
                try simp only [Act.put, List.setIfInBounds_toArray, List.set_cons_zero, List.set_cons_succ]
                refine take_on (i := 9) (v := ?_) rfl (by kernel_rfl) (by kernel_rfl) (by kernel_rfl) (fun _ _ _ h => h) (by rfl) (by assumption) ?_ ?_
                rotate_left
                ·((intro w hSw; (try dsimp only at hSw); go_simp <;> with_reducible rfl); done)
                try simp only [Act.put, List.setIfInBounds_toArray, List.set_cons_zero, List.set_cons_succ]
                refine take_on (i := 10) (v := ?_) rfl (by kernel_rfl) (by kernel_rfl) (by kernel_rfl) (fun _ _ _ h => h) (by rfl) (by assumption) ?_ ?_
                rotate_left
                ·((intro w hSw; (try dsimp only at hSw); go_simp <;> with_reducible rfl); done)
                try simp only [Act.put, List.setIfInBounds_toArray, List.set_cons_zero, List.set_cons_succ]
                refine take_on (i := 11) (v := ?_) rfl (by kernel_rfl) (by kernel_rfl) (by kernel_rfl) (fun _ _ _ h => h) (by rfl) (by assumption) ?_ ?_
                rotate_left
                ·((intro w hSw; (try dsimp only at hSw); go_simp <;> with_reducible rfl); done)
                try simp only [Act.put, List.setIfInBounds_toArray, List.set_cons_zero, List.set_cons_succ]
                refine branch_one (i := 7) rfl (by kernel_rfl) (by rfl) (fun K hK => ?_)
                go_simp
                refine hK.out _ _ (⟨z1, z3⟩) (fun hHeld => ?_)
                clear hK K
                try simp only [Act.put, List.setIfInBounds_toArray, List.set_cons_zero, List.set_cons_succ]
                refine take_on (i := 12) (v := ?_) rfl (by kernel_rfl) (by kernel_rfl) (by kernel_rfl) (fun _ _ _ h => h) (by rfl) (by assumption) ?_ ?_
                rotate_left
                ·((intro w hSw; (try dsimp only at hSw); go_simp <;> with_reducible rfl); done)
                try simp only [Act.put, List.setIfInBounds_toArray, List.set_cons_zero, List.set_cons_succ]
                refine take_on (i := 13) (v := ?_) rfl (by kernel_rfl) (by kernel_rfl) (by kernel_rfl) (fun _ _ _ h => h) (by rfl) (by assumption) ?_ ?_
                rotate_left
                ·((intro w hSw; (try dsimp only at hSw); go_simp <;> with_reducible rfl); done)
                try simp only [Act.put, List.setIfInBounds_toArray, List.set_cons_zero, List.set_cons_succ]
                refine take_on (i := 14) (v := ?_) rfl (by kernel_rfl) (by kernel_rfl) (by kernel_rfl) (fun _ _ _ h => h) (by rfl) (by assumption) ?_ ?_
                rotate_left
                ·((intro w hSw; (try dsimp only at hSw); go_simp <;> with_reducible rfl); done)
                try simp only [Act.put, List.setIfInBounds_toArray, List.set_cons_zero, List.set_cons_succ]
                refine branch_one (i := 15) rfl (by kernel_rfl) (by rfl) (fun K hK => ?_)
                go_simp
                refine hK.out _ _ (⟨HZ4.out _ _ _ z1, HZ4.out _ _ _ z3⟩) (fun hHeld => ?_)
                clear hK K
                try simp only [Act.put, List.setIfInBounds_toArray, List.set_cons_zero, List.set_cons_succ]
                refine wpAnyH_done (by kernel_rfl) ?_ _
                have HE := Lib.hid (HEND.out Z.drew ((Keeps.refl [] Z).drew) (1099511627777) (by rw [if_neg hgt]; omega))
                clear z1 z3 d0 df
                go_wp2
                go_roundw
                case rel => exact ⟨q + 1, ds.set t (1099511627777), by go_num, hqn, HE.out.1, HE.out.2.1, HE.out.2.2⟩
                case measure => simp [intOf]; omega
               ·have hxy2 : 1099511627777 < dt + pv := by omega
                have hxy3 : 1099511627777 ≤ dt + pv := by omega
                have hxy4 : ¬ (dt + pv ≤ 1099511627777) := by omega
                refine wp_region_held_drew (S := fun w' => (w'.cell? ⟨D, 1, none⟩ = some (.int .i64 t) ∧ w'.cell? ⟨D, 3, none⟩ = some (.int .i64 ew))) (by kernel_rfl) ⟨z1, z3⟩ (fun hHeld => ?_)
                have d0 : Z.drew.cell? ⟨g2, t, none⟩ = some (.int .i64 dt) := d0
                have df : Z.drew.frozen? ⟨g2, t, none⟩ = false := df
                have z1 : Z.drew.cell? ⟨D, 1, none⟩ = some (.int .i64 t) := z1
                have z3 : Z.drew.cell? ⟨D, 3, none⟩ = some (.int .i64 ew) := z3
                refine take_on (i := 0) (v := ?_) rfl (by kernel_rfl) (by kernel_rfl) (by kernel_rfl) (fun _ _ _ h => h) (by rfl) (by assumption) ?_ ?_
                rotate_left
                ·((intro w hSw; (try dsimp only at hSw); go_simp <;> with_reducible rfl); done)
                try simp only [Act.put, List.setIfInBounds_toArray, List.set_cons_zero, List.set_cons_succ]
                refine take_on (i := 1) (v := ?_) rfl (by kernel_rfl) (by kernel_rfl) (by kernel_rfl) (fun _ _ _ h => h) (by rfl) (by assumption) ?_ ?_
                rotate_left
                ·((intro w hSw; (try dsimp only at hSw); go_simp <;> with_reducible rfl); done)
                try simp only [Act.put, List.setIfInBounds_toArray, List.set_cons_zero, List.set_cons_succ]
                refine take_on (i := 2) (v := ?_) rfl (by kernel_rfl) (by kernel_rfl) (by kernel_rfl) (fun _ _ _ h => h) (by rfl) (by assumption) ?_ ?_
                rotate_left
                ·((intro w hSw; (try dsimp only at hSw); go_simp <;> with_reducible rfl); done)
                try simp only [Act.put, List.setIfInBounds_toArray, List.set_cons_zero, List.set_cons_succ]
                refine take_on (i := 3) (v := ?_) rfl (by kernel_rfl) (by kernel_rfl) (by kernel_rfl) (fun _ _ _ h => h) (by rfl) (by assumption) ?_ ?_
                rotate_left
                ·((intro w hSw; (try dsimp only at hSw); go_simp <;> with_reducible rfl); done)
                try simp only [Act.put, List.setIfInBounds_toArray, List.set_cons_zero, List.set_cons_succ]
                refine take_on (i := 4) (v := ?_) rfl (by kernel_rfl) (by kernel_rfl) (by kernel_rfl) (fun _ _ _ h => h) (by rfl) (by assumption) ?_ ?_
                rotate_left
                ·((intro w hSw; (try dsimp only at hSw); go_simp <;> with_reducible rfl); done)
                try simp only [Act.put, List.setIfInBounds_toArray, List.set_cons_zero, List.set_cons_succ]
                refine take_on (i := 5) (v := ?_) rfl (by kernel_rfl) (by kernel_rfl) (by kernel_rfl) (fun _ _ _ h => h) (by rfl) (by assumption) ?_ ?_
                rotate_left
                ·((intro w hSw; (try dsimp only at hSw); go_simp <;> with_reducible rfl); done)
                try simp only [Act.put, List.setIfInBounds_toArray, List.set_cons_zero, List.set_cons_succ]
                refine take_on (i := 6) (v := ?_) rfl (by kernel_rfl) (by kernel_rfl) (by kernel_rfl) (fun _ _ _ h => h) (by rfl) (by assumption) ?_ ?_
                rotate_left
                ·((intro w hSw; (try dsimp only at hSw); go_simp <;> with_reducible rfl); done)
                try simp only [Act.put, List.setIfInBounds_toArray, List.set_cons_zero, List.set_cons_succ]
                refine take_on (i := 8) (v := ?_) rfl (by kernel_rfl) (by kernel_rfl) (by kernel_rfl) (fun _ _ _ h => h) (by rfl) (by assumption) ?_ ?_
                rotate_left
                ·((intro w hSw; (try dsimp only at hSw); go_simp <;> with_reducible rfl); done)
                try simp only [Act.put, List.setIfInBounds_toArray, List.set_cons_zero, List.set_cons_succ]
                refine take_on (i := 9) (v := ?_) rfl (by kernel_rfl) (by kernel_rfl) (by kernel_rfl) (fun _ _ _ h => h) (by rfl) (by assumption) ?_ ?_
                rotate_left
                ·((intro w hSw; (try dsimp only at hSw); go_simp <;> with_reducible rfl); done)
                try simp only [Act.put, List.setIfInBounds_toArray, List.set_cons_zero, List.set_cons_succ]
                refine take_on (i := 10) (v := ?_) rfl (by kernel_rfl) (by kernel_rfl) (by kernel_rfl) (fun _ _ _ h => h) (by rfl) (by assumption) ?_ ?_
                rotate_left
                ·((intro w hSw; (try dsimp only at hSw); go_simp <;> with_reducible rfl); done)
                try simp only [Act.put, List.setIfInBounds_toArray, List.set_cons_zero, List.set_cons_succ]
                refine take_on (i := 11) (v := ?_) rfl (by kernel_rfl) (by kernel_rfl) (by kernel_rfl) (fun _ _ _ h => h) (by rfl) (by assumption) ?_ ?_
                rotate_left
                ·((intro w hSw; (try dsimp only at hSw); go_simp <;> with_reducible rfl); done)
                try simp only [Act.put, List.setIfInBounds_toArray, List.set_cons_zero, List.set_cons_succ]
                refine branch_one (i := 7) rfl (by kernel_rfl) (by rfl) (fun K hK => ?_)
                go_simp
                refine hK.out _ _ (⟨z1, z3⟩) (fun hHeld => ?_)
                clear hK K
                try simp only [Act.put, List.setIfInBounds_toArray, List.set_cons_zero, List.set_cons_succ]
                refine take_on (i := 12) (v := ?_) rfl (by kernel_rfl) (by kernel_rfl) (by kernel_rfl) (fun _ _ _ h => h) (by rfl) (by assumption) ?_ ?_
                rotate_left
                ·((intro w hSw; (try dsimp only at hSw); go_simp <;> with_reducible rfl); done)
                try simp only [Act.put, List.setIfInBounds_toArray, List.set_cons_zero, List.set_cons_succ]
                refine take_on (i := 13) (v := ?_) rfl (by kernel_rfl) (by kernel_rfl) (by kernel_rfl) (fun _ _ _ h => h) (by rfl) (by assumption) ?_ ?_
                rotate_left
                ·((intro w hSw; (try dsimp only at hSw); go_simp <;> with_reducible rfl); done)
                try simp only [Act.put, List.setIfInBounds_toArray, List.set_cons_zero, List.set_cons_succ]
                refine take_on (i := 14) (v := ?_) rfl (by kernel_rfl) (by kernel_rfl) (by kernel_rfl) (fun _ _ _ h => h) (by rfl) (by assumption) ?_ ?_
                rotate_left
                ·((intro w hSw; (try dsimp only at hSw); go_simp <;> with_reducible rfl); done)
                try simp only [Act.put, List.setIfInBounds_toArray, List.set_cons_zero, List.set_cons_succ]
                refine branch_one (i := 15) rfl (by kernel_rfl) (by rfl) (fun K hK => ?_)
                go_simp
                refine hK.out _ _ (⟨HZ4.out _ _ _ z1, HZ4.out _ _ _ z3⟩) (fun hHeld => ?_)
                clear hK K
                try simp only [Act.put, List.setIfInBounds_toArray, List.set_cons_zero, List.set_cons_succ]
                refine wpAnyH_done (by kernel_rfl) ?_ _
                have HE := Lib.hid (HEND.out Z.drew ((Keeps.refl [] Z).drew) (1099511627777) (by rw [if_neg hgt]; omega))
                clear z1 z3 d0 df
                go_wp2
                go_roundw
                case rel => exact ⟨q + 1, ds.set t (1099511627777), by go_num, hqn, HE.out.1, HE.out.2.1, HE.out.2.2⟩
                case measure => simp [intOf]; omega
            ·obtain rfl : q = L.length := by omega
             have hst : ds = cstep edges cl cs := by
              rw [hds, List.take_length, HLL.out, cstep, HCS.out.1]
             have hdl : ds.length = N := by have h := hcq.sb.1; simpa using h
             have hsum := sum_any (some ⟨g2, 0, none⟩) c2 ds wC hcq.sb.to_in (by omega) HDB.out
             rw [hdl] at hsum
             have HSUM := Lib.hid hsum
             have HST := Lib.hid (show cloop edges cls (text.drop (k + 1)) ds = V from by
              rw [← HVK.out, HDR.out, cloop, if_neg (by omega), ← HCLE.out, ← hst])
             have HDL := Lib.hid hdl
             have i0 : wC.cell? ⟨ib, 0, none⟩ = some (.int .i64 k) := by simp [World.cell?, hbq]
             clear hst hdl hsum hcq hbq hds hlb hrunZ
             go_wp2_with fail
             refine Calls.mono HSUM.out ?_
             rintro e w5 ⟨rfl, rfl⟩
             have hw1_ : IntKind.i64.wrap ((k : Int) + 1) = ((k + 1 : Nat) : Int) := by rw [IntWalk.i64_in _ (by omega)]; simp
             obtain ⟨k1, hk1⟩ : ∃ k1, k1 = k + 1 := ⟨_, rfl⟩
             rw [← hk1] at hw1_ HCQ HST
             have HK1E := Lib.hid hk1
             clear hk1
             go_upto_region 17 with fail
             go_wp2
             go_roundw
             case rel =>
              have hka : Keeps [] wC (wC.alloc (.cells #[.int .i64 (k1 : Nat)] 3)) := Keeps.a1 _ _
              obtain ⟨gmc, h1, _⟩ := HCQ.out.cm
              have h2 := h1.lt
              have h3 := HCQ.out.sa.lt
              have h4 := HCQ.out.sb.lt
              exact ⟨k1, some g2, c2, ds, some g1, c1, cs, wC.heap.size, rfl, rfl, rfl, rfl, by have := HK1E.out; omega, ⟨HDL.out, HCS.out.1, HDB.out⟩, HST.out, heap_alloc_new _ _, ⟨h2, (fun h => by simp only [Option.some.injEq] at h; omega), (fun h => by simp only [Option.some.injEq] at h; omega)⟩, (HCQ.out.keep hka (by simp)).swap⟩
             case measure =>
              have h1 : ptInt (.pointer (some ⟨ib, 0, none⟩)) wB = k := by simp [ptInt, World.cell?, HBK.out, intOf]
              have h2 : ptInt (.pointer (some ⟨wC.heap.size, 0, none⟩)) (wC.alloc (.cells #[.int .i64 (k1 : Nat)] 3)) = k1 := by
               have h3 := heap_alloc_new wC (.cells #[.int .i64 (k1 : Nat)] 3)
               generalize wC.alloc (.cells #[.int .i64 (k1 : Nat)] 3) = W at h3 ⊢
               simp [ptInt, World.cell?, h3, intOf]
              have := HK1E.out
              rw [h1, h2]
              omega
         ·have HVC := Lib.hid (show V = cs from by rw [← HVK.out, HDR.out, cloop, if_pos (.inr (by omega))])
          by_cases hM : (1099511627776 : Int) < cs.sum
          ·have HFE := Lib.hid (show R = (0, 4) by rw [HFV.out, HVC.out, if_pos hM])
           clear HCK HBK
           go_wp2
           rw [HQ.out, HFE.out]
           exact ⟨rfl, HKQ.out⟩
          ·have HFE := Lib.hid (show R = (cs.sum, 0) by rw [HFV.out, HVC.out, if_neg hM])
           clear HCK HBK
           go_wp2
           rw [HQ.out, HFE.out]
           exact ⟨rfl, HKQ.out⟩
       ·have HVC := Lib.hid (show V = cs from by rw [← HVK.out, List.drop_eq_nil_of_le (by omega)]; rfl)
        by_cases hM : (1099511627776 : Int) < cs.sum
        ·have HFE := Lib.hid (show R = (0, 4) by rw [HFV.out, HVC.out, if_pos hM])
         clear HCK HBK
         go_wp2
         rw [HQ.out, HFE.out]
         exact ⟨rfl, HKQ.out⟩
        ·have HFE := Lib.hid (show R = (cs.sum, 0) by rw [HFV.out, HVC.out, if_neg hM])
         clear HCK HBK
         go_wp2
         rw [HQ.out, HFE.out]
         exact ⟨rfl, HKQ.out⟩
 ·have HF := Lib.hid (show R = (0, gv) by rw [HR.out, cntRes, if_pos (by rw [← HGV.out]; exact hg), ← HGV.out])
  have hg' : (gv != 0) = true := by simp [hg]
  go_wp2
  rw [HQ.out, HF.out]
  exact ⟨rfl, HK1.out⟩
end Go.Proofs.YtphnbmdcgcchaaaDoor
