/- Part 35 of the proof. No condition: every lemma says its own. -/
import Derived.Test.YtkekenaamnhbhaaGreatZsbh
import Derived.Test.YtkekenaamnhbhaaGreatZsas
namespace Go.Proofs.YtkekenaamnhbhaaGreat
open Go.RowKit Go.Sort Go.BigFrame
set_option maxRecDepth 100000
set_option maxHeartbeats 16000000
theorem counter_any (p : Pg) (nodes : List Int) (na : Option Addr) (nc : Nat) (C : Nat → List Int) (w : World) (hlen : p.ins.length ≤ 8192) : Calls Tryz.prog 55 #[p.val, .slice na nodes.length nc] w fun e w' =>
  ∃ p5 p3 p2 p6 kb W00, e = .returned (.func (.func 90) #[] (cntC p5 p3 p2 p6)) ∧ Keeps [] w W00 ∧ W00.heap[p2]? = some (.cells p.row.toArray 83 (0, 0)) ∧ W00.cell? ⟨p3, 0, none⟩ = some (.slice na nodes.length nc) ∧
   NS W00 p.ins.length nodes.length C p5 p3 p2 p6 kb (fun _ => (none, 0)) w' ∧ (w.heap.size ≤ p5 ∧ w.heap.size ≤ p3 ∧ w.heap.size ≤ p2 ∧ w.heap.size ≤ p6) := by
 obtain ⟨B, hB⟩ : ∃ B, B = w.heap.size := ⟨_, rfl⟩
 obtain ⟨Y, hY⟩ : ∃ Y, Y = (w.alloc (.cells #[.slice p.ia p.ins.length p.ic, .int .i64 p.caps, .bool p.runes] 83)).alloc (.cells #[.slice na nodes.length nc] 22) := ⟨_, rfl⟩
 have hkY : Keeps [] w Y := by rw [hY]; exact (Keeps.a1 w _).alloc _
 have hYs : Y.heap.size = B + 2 := by rw [hY, hB]; simp
 have hb : Y.heap[B]? = some (.cells p.row.toArray 83 (0, 0)) := by rw [hY, hB]; exact (Keeps.a1 _ _).heap (heap_alloc_new w _) (by simp)
 have h3 : Y.heap[B + 1]? = some (.cells #[.slice na nodes.length nc] 22 (0, 0)) := by rw [hY, hB]; exact heap_alloc2_new w _ _
 have b0 : Y.cell? ⟨B, 0, none⟩ = some (.slice p.ia p.ins.length p.ic) := by simp [World.cell?, hb, Pg.row]
 obtain ⟨ij, hi0, hi1, hi2, hi3⟩ := infoParts infoIs
 have HMK : ∀ W : World, (Instr.makeSlice 158 (.int .i64 (p.ins.length : Nat)) (.int .i64 (p.ins.length : Nat))).run Tryz.prog W = .ok (.slice (some ⟨W.heap.size, 0, none⟩) p.ins.length p.ins.length) (W.alloc (.cells (Array.replicate p.ins.length (.slice none 0 0)) 22)) :=
  fun W => run_make_nil Tryz.underlying158 hi0 hi1 hi2 hi3 W p.ins.length (by omega)
 obtain ⟨X, hX⟩ : ∃ X, X = ((Y.alloc (.cells (Array.replicate p.ins.length (.slice none 0 0)) 22)).alloc (.cells #[.slice (some ⟨B + 2, 0, none⟩) p.ins.length p.ins.length] 158)).alloc (.cells #[.nilFunc] 117) := ⟨_, rfl⟩
 have hkX : Keeps [] Y X := by rw [hX]; exact ((Keeps.a1 Y _).alloc _).alloc _
 have hkn : X.heap[B + 2]? = some (.cells ((List.range p.ins.length).map fun i => slv ((fun _ => (none, 0) : Nat → Option Nat × Nat) i) (if ((fun _ => (none, 0) : Nat → Option Nat × Nat) i).1 = none then 0 else nodes.length)).toArray 22 (0, 0)) := by
  have h := ((Keeps.a1 (Y.alloc (.cells (Array.replicate p.ins.length (.slice none 0 0)) 22)) (.cells #[.slice (some ⟨B + 2, 0, none⟩) p.ins.length p.ins.length] 158)).alloc (.cells #[.nilFunc] 117)).heap (heap_alloc_new Y _) (by simp)
  rw [hYs, ← hX] at h
  rw [h]
  congr 2
  apply Array.ext
  ·simp
  ·intro i h1 h2
   simp [slv]
 have h5 : X.heap[B + 3]? = some (.cells #[.slice (some ⟨B + 2, 0, none⟩) p.ins.length p.ins.length] 158 (0, 0)) := by
  have h := (Keeps.a1 ((Y.alloc (.cells (Array.replicate p.ins.length (.slice none 0 0)) 22)).alloc (.cells #[.slice (some ⟨B + 2, 0, none⟩) p.ins.length p.ins.length] 158)) (.cells #[.nilFunc] 117)).heap (heap_alloc2_new Y _ _) (by simp)
  rw [hYs, ← hX] at h
  exact h
 have h6 : X.heap[B + 4]? = some (.cells #[.nilFunc] 117 (0, 0)) := by
  have h := heap_alloc_new ((Y.alloc (.cells (Array.replicate p.ins.length (.slice none 0 0)) 22)).alloc (.cells #[.slice (some ⟨B + 2, 0, none⟩) p.ins.length p.ins.length] 158)) (.cells #[.nilFunc] 117)
  rw [← hX, show ((Y.alloc (.cells (Array.replicate p.ins.length (.slice none 0 0)) 22)).alloc (.cells #[.slice (some ⟨B + 2, 0, none⟩) p.ins.length p.ins.length] 158)).heap.size = B + 4 by simp [hYs]] at h
  exact h
 obtain ⟨z0, zf⟩ : X.cell? ⟨B + 4, 0, none⟩ = some .nilFunc ∧ X.frozen? ⟨B + 4, 0, none⟩ = false := by simp [World.cell?, World.frozen?, h6]
 obtain ⟨Z, hZ⟩ : ∃ Z, Z = X.setCell ⟨B + 4, 0, none⟩ (.func (.func 90) #[] (cntC (B + 3) (B + 1) B (B + 4))) := ⟨_, rfl⟩
 have hkZ : Keeps [B + 4] X Z := by rw [hZ]; exact (Keeps.refl [B + 4] X).setCell (by simp) _
 have hz6 : Z.heap[B + 4]? = some (.cells #[.func (.func 90) #[] (cntC (B + 3) (B + 1) B (B + 4))] 117 (0, 0)) := by
  rw [hZ, heap_setCell_same X (B + 4) 0 _ _ _ h6]; rfl
 have hz5 := hkZ.heap h5 (by simp)
 have hns : NS Y p.ins.length nodes.length C (B + 3) (B + 1) B (B + 4) (B + 2) (fun _ => (none, 0)) Z :=
  ⟨hkX.after hkZ (fun q hq => by simp at hq; subst hq; exact .inr (by omega)), by simp [World.cell?, hz5], by simp [World.cell?, hz6], hkZ.heap hkn (by simp), fun i _ g h => by simp at h, fun _ _ _ => rfl, by omega, by omega, by omega⟩
 have c6 := hns.c6
 unfold cntC at c6
 have HNS := gI hns
 have HBB := gI hb
 have H3 := gI (show Y.cell? ⟨B + 1, 0, none⟩ = some (.slice na nodes.length nc) by simp [World.cell?, h3])
 have HY := gI hY
 have HB := gI hB
 have HYS := gI hYs
 have HX := gI hX
 have HZ := gI (show X.setCell ⟨B + 4, 0, none⟩ (.func (.func 90) #[] #[.pointer (some ⟨B + 3, 0, none⟩), .pointer (some ⟨B + 1, 0, none⟩), .pointer (some ⟨B, 0, none⟩), .pointer (some ⟨B + 4, 0, none⟩)]) = Z by rw [hZ]; rfl)
 have HK := gI hkY
 simp only [Pg.val]
 clear hB hY hkY hYs hb h3 hi0 hi1 hi2 hi3 hX hkX hkn h5 h6 hZ hkZ hz6 hz5 hns
 go_enter Tryz.func55, Tryz.ntmps55
 go_upto_region 1 with fail
 rw [← HY.out, ← HB.out]
 go_upto_region 3 with fail
 rw [HYS.out, show B + 2 + 1 + 1 = B + 4 from rfl, show B + 2 + 1 = B + 3 from rfl, ← HX.out]
 go_upto_region 4 with fail
 rw [HZ.out]
 clear z0 zf b0
 go_wp2
 go_ret
 exact ⟨B + 3, B + 1, B, B + 4, B + 2, Y, rfl, HK.out, HBB.out, H3.out, HNS.out, by have h := HB.out; omega⟩
def cW (p : Pg) (nodes : List Int) (ix : Nat → Nat) : Nat → Nat → List Int
 | 0, _ => []
 | f + 1, n => match p.ins[n]? with
  | some i => (silL i n).foldl (fun acc t => zipW acc (cW p nodes ix f t.toNat)) (baseW p nodes.length ix n)
  | none => []
theorem foldl_congr' {α β : Type} {f g : α → β → α} : ∀ {l : List β} {a : α}, (∀ a, ∀ x ∈ l, f a x = g a x) → l.foldl f a = l.foldl g a
 | [], _, _ => rfl
 | x :: r, a, h => by
  rw [List.foldl_cons, List.foldl_cons, h a x (by simp)]
  exact foldl_congr' fun a y hy => h a y (by simp [hy])
theorem cW.stable {p : Pg} {nodes : List Int} {ix : Nat → Nat} {ρ : Nat → Nat} (hE : Ends p ρ) : ∀ f f' n, n < p.ins.length → ρ n < f → ρ n < f' → cW p nodes ix f n = cW p nodes ix f' n := by
 intro f
 induction f with
 | zero => intro f' n _ h; omega
 | succ f ih =>
  intro f' n hn h h'
  obtain ⟨g, rfl⟩ : ∃ g, f' = g + 1 := ⟨f' - 1, by omega⟩
  unfold cW
  rw [List.getElem?_eq_getElem hn]
  simp only
  refine foldl_congr' fun a t ht => ?_
  obtain ⟨k, rfl, hk, hr⟩ := hE n hn t ht
  rw [Int.toNat_natCast, ih g k hk (by omega) (by omega)]
theorem baseW_ok (p : Pg) (N : Nat) (ix : Nat → Nat) (n : Nat) : (baseW p N ix n).length = N ∧ ∀ v ∈ baseW p N ix n, 0 ≤ v ∧ v ≤ 1099511627777 := by
 have hrep : ∀ v ∈ List.replicate N (0 : Int), 0 ≤ v ∧ v ≤ 1099511627777 := fun v hv => by rw [List.eq_of_mem_replicate hv]; omega
 have hset : ∀ k, ∀ v ∈ (List.replicate N (0 : Int)).set k 1, 0 ≤ v ∧ v ≤ 1099511627777 := fun k v hv => by
  rcases List.mem_or_eq_of_mem_set hv with h | h
  ·exact hrep v h
  ·omega
 unfold baseW
 split
 ·split
  ·exact ⟨by simp, hset _⟩
  ·split
   ·exact ⟨by simp, hset _⟩
   ·exact ⟨by simp, hrep⟩
 ·exact ⟨by simp, hrep⟩
theorem foldW_ok {N : Nat} {g : Int → List Int} : ∀ {l : List Int} {a : List Int}, a.length = N → (∀ v ∈ a, 0 ≤ v ∧ v ≤ 1099511627777) → (∀ t ∈ l, (g t).length = N ∧ ∀ v ∈ g t, 0 ≤ v ∧ v ≤ 1099511627777) →
  (l.foldl (fun acc t => zipW acc (g t)) a).length = N ∧ ∀ v ∈ l.foldl (fun acc t => zipW acc (g t)) a, 0 ≤ v ∧ v ≤ 1099511627777
 | [], a, h1, h2, _ => ⟨h1, h2⟩
 | t :: r, a, h1, h2, h3 => by
  obtain ⟨h4, h5⟩ := h3 t (by simp)
  refine foldW_ok (l := r) (a := zipW a (g t)) (by rw [zipW_length _ _ (by omega), h1]) (fun v hv => ?_) (fun t' ht => h3 t' (by simp [ht]))
  obtain ⟨q, hq, rfl⟩ := List.mem_iff_getElem.1 hv
  simp only [zipW, List.getElem_zipWith]
  simp only [zipW, List.length_zipWith] at hq
  have e1 := h2 a[q] (List.getElem_mem (by omega))
  have e2 := h5 (g t)[q] (List.getElem_mem (by omega))
  omega
theorem cW.isC {p : Pg} {nodes : List Int} {ix : Nat → Nat} {ρ : Nat → Nat} (hE : Ends p ρ) {f : Nat} (hf : ∀ n, n < p.ins.length → ρ n < f) (hix : ∀ n (h : n < p.ins.length), (p.ins[n]).op = 1 → ∃ h' : ix n < nodes.length, nodes[ix n] = n ∧ ∀ j (hj : j < ix n), nodes[j] ≠ n)
  (hpos : 0 < nodes.length) (hsmall : nodes.length ≤ 1000000) : IsC p nodes ix (cW p nodes ix f) := by
 have hu : ∀ n (h : n < p.ins.length), cW p nodes ix f n = (silL p.ins[n] n).foldl (fun acc t => zipW acc (cW p nodes ix f t.toNat)) (baseW p nodes.length ix n) := fun n hn => by
  rw [cW.stable hE f (f + 1) n hn (hf n hn) (by have := hf n hn; omega)]
  unfold cW
  rw [List.getElem?_eq_getElem hn]
  cases f with
  | zero => have := hf n hn; omega
  | succ f => rfl
 have hall : ∀ r n, n < p.ins.length → ρ n < r → (cW p nodes ix f n).length = nodes.length ∧ ∀ v ∈ cW p nodes ix f n, 0 ≤ v ∧ v ≤ 1099511627777 := by
  intro r
  induction r with
  | zero => intro n _ h; omega
  | succ r ih =>
   intro n hn hr
   rw [hu n hn]
   obtain ⟨h1, h2⟩ := baseW_ok p nodes.length ix n
   refine foldW_ok (g := fun t => cW p nodes ix f t.toNat) h1 h2 fun t ht => ?_
   obtain ⟨k, rfl, hk, hkr⟩ := hE n hn t ht
   rw [Int.toNat_natCast]
   exact ih k hk (by omega)
 exact ⟨hu, fun n hn => (hall _ n hn (Nat.lt_succ_self _)).1, fun n hn => (hall _ n hn (Nat.lt_succ_self _)).2, hix, hpos, hsmall⟩
def addTo (cls : List Cl) (sp : List (Int × Int)) (fr tt n : Int) (q : Nat) : List E4 := (List.range q).flatMap fun (c : Nat) => if hasB sp (loOf cls (c : Int)) then [⟨fr, tt, c, n⟩] else []
theorem addTo_succ (cls : List Cl) (sp : List (Int × Int)) (fr tt n : Int) (q : Nat) : addTo cls sp fr tt n (q + 1) = addTo cls sp fr tt n q ++ if hasB sp (loOf cls (q : Int)) then [⟨fr, tt, q, n⟩] else [] := by
 simp [addTo, List.range_succ, List.flatMap_append]
theorem addTo_le (cls : List Cl) (sp : List (Int × Int)) (fr tt n : Int) : ∀ q, (addTo cls sp fr tt n q).length ≤ q
 | 0 => by simp [addTo]
 | q + 1 => by
  rw [addTo_succ, List.length_append]
  have := addTo_le cls sp fr tt n q
  split <;> simp <;> omega
def edgesQ (cls : List Cl) (sp : List (Int × Int)) (fr : Int) (ways : List Int) (l : List E4) : Nat → List E4
 | 0 => l
 | k + 1 => let r := edgesQ cls sp fr ways l k
  if ways.getD k 0 = 0 ∨ 65536 < r.length then r else r ++ addTo cls sp fr k (ways.getD k 0) cls.length
theorem edgesQ_le (cls : List Cl) (sp : List (Int × Int)) (fr : Int) (ways : List Int) (l : List E4) (hl : l.length ≤ 65536 + cls.length) : ∀ k, (edgesQ cls sp fr ways l k).length ≤ 65536 + cls.length
 | 0 => hl
 | k + 1 => by
  have h := edgesQ_le cls sp fr ways l hl k
  unfold edgesQ
  simp only
  split
  ·exact h
  ·rename_i hc
   have := addTo_le cls sp fr k (ways.getD k 0) cls.length
   rw [List.length_append]
   omega
theorem edges_any {W0 w : World} {ca sa : Option Addr} {cc sc : Nat} {cls : List Cl} {sp : List (Int × Int)} {fr : Nat} {ways : List Int} {l : List E4} {a : Option Nat} {c g cw : Nat} (hcls : ClsIn W0 ca cls) (hcl : ∀ k ∈ cls, SpIn W0 k.a k.sp ∧ k.sp ≠ [] ∧ k.sp.length ≤ 1000000000000)
  (hset : SpIn W0 sa sp ∧ sp.length ≤ 1000000000000) (hcn : cls.length ≤ 100000) (hk : Keeps [] W0 w) (hl : SliceAt w 125 4 a l.length c (flatE l)) (hll : l.length ≤ 65536 + cls.length) (ha : ∀ q, a = some q → W0.heap.size ≤ q)
  (hw : SliceAt w 3 1 (some g) ways.length cw (ways.map (Value.int .i64))) (hwl : ways.length ≤ 1000000) (hg : a ≠ some g) :
  Calls Tryz.prog 57 #[.slice (a.map fun g => ⟨g, 0, none⟩) l.length c, .slice ca cls.length cc, .slice sa sp.length sc, .int .i64 fr, .slice (some ⟨g, 0, none⟩) ways.length cw] w fun e w' =>
   ∃ a' c', e = .returned (.slice (a'.map fun g => ⟨g, 0, none⟩) (edgesQ cls sp fr ways l ways.length).length c') ∧ SliceAt w' 125 4 a' (edgesQ cls sp fr ways l ways.length).length c' (flatE (edgesQ cls sp fr ways l ways.length)) ∧ Keeps a.toList w w' ∧ ∀ q, a' = some q → a = some q ∨ w.heap.size ≤ q := by
 obtain ⟨ie, hie, hez, hes, heb⟩ := infoParts infoEd
 have HIE := gI hie
 have HEZ := gI hez
 have HES := gI hes
 have HEB := gI heb
 have HCLS := gI hcls
 have HCL := gI hcl
 have HSET := gI hset
 have HK := gI hk
 have HL := gI hl
 have HA := gI ha
 have HW := gI hw
 have HG := gI hg
 have HLL := gI hll
 have hgl := hw.lt
 have HGL := gI hgl
 clear hie hez hes heb hcls hcl hset hk hl ha hw hg hll hgl
 go_enter Tryz.func57, Tryz.ntmps57
 go_wp2
 go_loopw [0, 17] (fun v0 v17 wr => ∃ (k : Nat) (r : List E4) (a' : Option Nat) (c' : Nat), v0 = .slice (a'.map fun g => ⟨g, 0, none⟩) r.length c' ∧ v17 = .int .i64 k ∧ k ≤ ways.length ∧ r = edgesQ cls sp fr ways l k ∧ SliceAt wr 125 4 a' r.length c' (flatE r) ∧ Keeps a.toList w wr ∧ ∀ q, a' = some q → a = some q ∨ w.heap.size ≤ q) (fun _ v17 _ => ways.length - (intOf v17).toNat)
 case atStart => exact ⟨0, l, a, c, rfl, rfl, Nat.zero_le _, rfl, HL.out, Keeps.refl _ _, fun q h => .inl h⟩
 case round =>
  obtain ⟨k, r, a', c', rfl, rfl, hkw, hr, hrs, hkr, hra⟩ := hrel
  obtain ⟨wA, hwA⟩ : ∃ wA : World, wA = wr := ⟨_, rfl⟩
  subst hwA
  have HR := gI hr
  have HRS := gI hrs
  have HKR := gI hkr
  have HRA := gI hra
  have hrl : r.length ≤ 65536 + cls.length := by rw [hr]; exact edgesQ_le cls sp fr ways l HLL.out k
  by_cases hkl : k < ways.length
  ·have w0 := (HW.out.keep hkr (fun q hq hm => by cases hq; exact HG.out (by simpa using hm))).cell k (by simpa using hkl)
   simp only [List.getElem_map] at w0
   have HST := gI (show edgesQ cls sp fr ways l (k + 1) = if ways[k] = 0 ∨ 65536 < r.length then r else r ++ addTo cls sp fr k ways[k] cls.length from by
    show (if ways.getD k 0 = 0 ∨ 65536 < (edgesQ cls sp fr ways l k).length then _ else _) = _
    rw [← hr, show ways.getD k 0 = ways[k] by simp [List.getD, hkl]])
   obtain ⟨n, hn⟩ : ∃ n, n = ways[k] := ⟨_, rfl⟩
   rw [← hn] at w0 HST
   clear hr hrs hkr hra hn
   by_cases hn0 : n = 0
   ·subst hn0
    have HS2 := gI (show r = edgesQ cls sp fr ways l (k + 1) by rw [HST.out, if_pos (.inl rfl)])
    go_wp2
    go_roundw
    case rel => exact ⟨k + 1, r, a', c', rfl, by go_num, hkl, HS2.out, HRS.out, HKR.out, HRA.out⟩
    case measure => simp [intOf]; omega
   ·have hn0b : (n == 0) = false := by simpa using hn0
    by_cases hrm : 65536 < r.length
    ·have HS2 := gI (show r = edgesQ cls sp fr ways l (k + 1) by rw [HST.out, if_pos (.inr hrm)])
     have hrm2 : (65536 : Int) < r.length := by omega
     go_wp2
     go_roundw
     case rel => exact ⟨k + 1, r, a', c', rfl, by go_num, hkl, HS2.out, HRS.out, HKR.out, HRA.out⟩
     case measure => simp [intOf]; omega
    ·have HS2 := gI (show edgesQ cls sp fr ways l (k + 1) = r ++ addTo cls sp fr k n cls.length by rw [HST.out, if_neg (by omega)])
     have hrm2 : ¬ (65536 : Int) < r.length := by omega
     go_wp2
     go_loopw [0, 31] (fun v0 v31 wr => ∃ (q : Nat) (r2 : List E4) (a2 : Option Nat) (c2 : Nat), v0 = .slice (a2.map fun g => ⟨g, 0, none⟩) r2.length c2 ∧ v31 = .int .i64 q ∧ q ≤ cls.length ∧ r2 = r ++ addTo cls sp fr k n q ∧ SliceAt wr 125 4 a2 r2.length c2 (flatE r2) ∧ Keeps a.toList w wr ∧ ∀ q, a2 = some q → a = some q ∨ w.heap.size ≤ q) (fun _ v31 _ => cls.length - (intOf v31).toNat)
     case atStart => exact ⟨0, r, a', c', rfl, rfl, Nat.zero_le _, by simp [addTo], HRS.out, HKR.out, HRA.out⟩
     case round =>
      obtain ⟨q, r2, a2, c2, rfl, rfl, hq, hr2, hrs2, hkr2, hra2⟩ := hrel
      obtain ⟨wB, hwB⟩ : ∃ wB : World, wB = wr := ⟨_, rfl⟩
      subst hwB
      have HR2 := gI hr2
      have HRS2 := gI hrs2
      have HKR2 := gI hkr2
      have HRA2 := gI hra2
      have hk0 : Keeps [] W0 wB := HK.out.after hkr2 (fun x hx => .inr (HA.out x (by simpa using hx)))
      have HK0 := gI hk0
      by_cases hql : q < cls.length
      ·obtain ⟨cb, coff, rfl, hcc⟩ := (HCLS.out.keep hk0) (by omega)
       have e0 := hcc q hql
       obtain ⟨hs1, hs2, hs3⟩ := HCL.out cls[q] (List.getElem_mem hql)
       obtain ⟨sb, soff, hsa, hsc⟩ := (hs1.keep hk0) (List.length_pos_iff.2 hs2)
       have s0 := (hsc 0 (List.length_pos_iff.2 hs2)).1
       simp only [Nat.zero_mul, Nat.add_zero] at s0
       rw [hsa] at e0
       have HLO := gI (show loOf cls (q : Int) = ((cls[q]).sp[0]'(List.length_pos_iff.2 hs2)).1 from by
        simp [loOf, List.getD, hql, List.length_pos_iff.2 hs2])
       have hsl : 0 < (cls[q]).sp.length := List.length_pos_iff.2 hs2
       obtain ⟨lo, hlo⟩ : ∃ lo, lo = ((cls[q]).sp[0]'(List.length_pos_iff.2 hs2)).1 := ⟨_, rfl⟩
       rw [← hlo] at s0 HLO
       obtain ⟨sl, hslx⟩ : ∃ n, n = (cls[q]).sp.length := ⟨_, rfl⟩
       obtain ⟨sc2, hsc2⟩ : ∃ n, n = (cls[q]).c := ⟨_, rfl⟩
       rw [← hslx, ← hsc2] at e0
       rw [← hslx] at hsl
       have HHAS := gI (has_any sa sc sp lo wB (HSET.out.1.keep hk0) HSET.out.2)
       have HAD := gI (addTo_succ cls sp fr k n q)
       rw [HLO.out] at HAD
       obtain ⟨tb, htb⟩ : ∃ tb, tb = hasB sp lo := ⟨_, rfl⟩
       rw [← htb] at HHAS HAD
       have hr2l : r2.length ≤ 65536 + 200000 := by
        rw [hr2, List.length_append]
        have := addTo_le cls sp fr k n q
        omega
       have HR2L := gI hr2l
       clear hr2 hrs2 hkr2 hra2 hk0 hcc hs1 hs2 hs3 hsa hsc hlo hslx hsc2 htb
       cases tb with
       | false =>
        go_wp2_with (go_at_call 92; refine HHAS.out.mono ?_)
        rintro e w5 ⟨rfl, hk5⟩
        have HRS5 := gI (HRS2.out.keep hk5 (by simp))
        have HKR5 := gI (HKR2.out.trans (hk5.mono (by simp)))
        have HE5 := gI (show r2 = r ++ addTo cls sp fr k n (q + 1) by rw [HAD.out, HR2.out]; simp)
        clear hk5 e0 s0
        go_wp2
        go_roundw
        case rel => exact ⟨q + 1, r2, a2, c2, rfl, by go_num, hql, HE5.out, HRS5.out, HKR5.out, HRA2.out⟩
        case measure => simp [intOf]; omega
       | true =>
        go_wp2_with (go_at_call 92; refine HHAS.out.mono ?_)
        rintro e w5 rfl hk5
        have HRS5 := gI (HRS2.out.keep hk5 (by simp))
        have HKR5 := gI (HKR2.out.trans (hk5.mono (by simp)))
        have HE5 := gI (show r2 ++ [⟨fr, k, q, n⟩] = r ++ addTo cls sp fr k n (q + 1) by rw [HAD.out, HR2.out]; simp)
        clear hk5 e0 s0
        go_wp2_with (at_builtin; refine wpList_append_sl rfl (.tmp 42) (.tmp 48) 87 rfl 125 ie _ 4 32 Tryz.underlying87 HIE.out HEZ.out HES.out HEB.out rfl (by decide) a2 r2.length c2 (flatE r2) rfl (HRS5.out.alloc _) ⟨w5.heap.size, 0, none⟩ 1 1 (E4.cells ⟨fr, k, q, n⟩) rfl rfl (news_row' _ _ _ _ rfl) (by intro u hu; simp [E4.cells] at hu; rcases hu with rfl | rfl | rfl | rfl <;> rfl) (by decide) (by have := HR2L.out; omega) (by have := HR2L.out; omega) ?hk)
        case hk =>
         intro g6 c6 w6 hs6 hk6 hg6
         have HS6 := gI (show SliceAt w6 125 4 (some g6) (r2 ++ [(⟨fr, k, q, n⟩ : E4)]).length c6 (flatE (r2 ++ [⟨fr, k, q, n⟩])) from by
          rw [List.length_append, List.length_singleton, flatE_append]
          exact hs6)
         have HK6 := gI (show Keeps a.toList w w6 from (HKR5.out.alloc _).after hk6 (fun x hx => by
          rcases HRA2.out x (by simpa using hx) with h | h
          ·exact .inl (by simp [h])
          ·exact .inr h))
         have HG6 := gI (show ∀ x, some g6 = some x → a = some x ∨ w.heap.size ≤ x from fun x hx => by
          cases hx
          rcases hg6 with h | h
          ·exact HRA2.out _ h
          ·have := HKR5.out.size
           exact .inr (by omega))
         clear hs6 hk6 hg6
         go_wp2
         go_roundw
         case rel => exact ⟨q + 1, r2 ++ [⟨fr, k, q, n⟩], some g6, c6, by simp, by go_num, hql, HE5.out, HS6.out, HK6.out, HG6.out⟩
         case measure => simp [intOf]; omega
      ·obtain rfl : q = cls.length := by omega
       have HE6 := gI (show r2 = edgesQ cls sp fr ways l (k + 1) by rw [HS2.out, HR2.out])
       clear hr2 hrs2 hkr2 hra2 hk0
       go_wp2
       go_roundw
       case rel => exact ⟨k + 1, r2, a2, c2, rfl, by go_num, hkl, HE6.out, HRS2.out, HKR2.out, HRA2.out⟩
       case measure => simp [intOf]; omega
  ·obtain rfl : k = ways.length := by omega
   subst hr
   clear hrs hkr hra
   go_wp2
   go_ret
   exact ⟨a', c', rfl, HRS.out, HKR.out, HRA.out⟩
section
def prL (z : Tri) : List Value := [.int .i64 z.1, .int .i64 z.2.1]
def prF : List Tri → List Value
 | [] => []
 | z :: r => prL z ++ prF r
theorem prF_length : ∀ zs : List Tri, (prF zs).length = zs.length * 2
 | [] => rfl
 | z :: r => by
  have := prF_length r
  simp only [prF, prL, List.length_append, List.length_cons, List.length_nil]
  omega
theorem prF_append : ∀ xs ys : List Tri, prF (xs ++ ys) = prF xs ++ prF ys
 | [], _ => rfl
 | z :: r, ys => by rw [List.cons_append, prF, prF, prF_append r ys, List.append_assoc]
theorem prF_get : ∀ (zs : List Tri) (sp : List Value) (i : Nat), i < zs.length → (prF zs ++ sp)[i * 2]? = some (.int .i64 (zs.getD i z0).1) ∧ (prF zs ++ sp)[i * 2 + 1]? = some (.int .i64 (zs.getD i z0).2.1)
 | z :: r, sp, 0, _ => ⟨rfl, rfl⟩
 | z :: r, sp, i + 1, h => by
  have ih := prF_get r sp i (by simpa using h)
  rw [Nat.succ_mul]
  exact ih
theorem prF_set : ∀ (zs : List Tri) (sp : List Value) (i : Nat) (t : Tri), i < zs.length → ((prF zs ++ sp).set (i * 2) (.int .i64 t.1)).set (i * 2 + 1) (.int .i64 t.2.1) = prF (zs.set i t) ++ sp
 | z :: r, sp, 0, t, _ => rfl
 | z :: r, sp, i + 1, t, h => by
  have ih := prF_set r sp i t (by simpa using h)
  rw [Nat.succ_mul]
  simp only [prF, prL, List.set_cons_succ, List.cons_append, List.nil_append]
  rw [ih]
def Prs (E : Nat) (w : World) (b : Nat) (sp : List Value) (zs : List Tri) : Prop := w.heap[b]? = some (.cells (prF zs ++ sp).toArray E (0, 0))
variable {E b : Nat} {w w' : World} {sp : List Value} {zs : List Tri}
theorem Prs.fz (h : Prs E w b sp zs) (i : Nat) : w.frozen? ⟨b, i, none⟩ = false := by unfold Prs at h; simp [World.frozen?, h]
theorem Prs.cells (h : Prs E w b sp zs) (i : Nat) (hi : i < zs.length) : w.cell? ⟨b, i * 2, none⟩ = some (.int .i64 (zs.getD i z0).1) ∧ w.cell? ⟨b, i * 2 + 1, none⟩ = some (.int .i64 (zs.getD i z0).2.1) := by
 unfold Prs at h
 have h1 := prF_get zs sp i hi
 simp only [World.cell?, h, List.getElem?_toArray]
 exact h1
theorem Prs.drewN (h : Prs E w b sp zs) (n : Nat) : Prs E (w.drewN n) b sp zs := h
theorem Prs.drew (h : Prs E w b sp zs) : Prs E w.drew b sp zs := h
theorem Prs.keep {S : List Nat} (h : Prs E w b sp zs) (k : Keeps S w w') (hs : b ∉ S) : Prs E w' b sp zs := k.heap h hs
def put2 (w : World) (b o : Nat) (t : Tri) : World := (w.setCell ⟨b, o, none⟩ (.int .i64 t.1)).setCell ⟨b, o + 1, none⟩ (.int .i64 t.2.1)
theorem Prs.set (h : Prs E w b sp zs) (i : Nat) (hi : i < zs.length) (t : Tri) : Prs E (put2 w b (i * 2) t) b sp (zs.set i t) := by
 have e1 := heap_setCell_same w b (i * 2) _ E (.int .i64 t.1) h
 have e2 := heap_setCell_same _ b (i * 2 + 1) _ E (.int .i64 t.2.1) e1
 unfold Prs put2
 rw [e2, ← prF_set zs sp i t hi]
 congr 2
 apply Array.ext'
 simp
theorem Keeps.put2 {S : List Nat} {a : World} (h : Keeps S a w) (hb : b ∈ S ∨ a.heap.size ≤ b) (o : Nat) (t : Tri) : Keeps S a (put2 w b o t) :=
 (h.setCell (p := ⟨b, o, none⟩) hb _).setCell (p := ⟨b, o + 1, none⟩) hb _
theorem Prs.swp (h : Prs E w b sp zs) (i j : Nat) (hi : i < zs.length) (hj : j < zs.length) : Prs E (Go.Proofs.YtkekenaamnhbhaaGreat.put2 (Go.Proofs.YtkekenaamnhbhaaGreat.put2 w b (i * 2) (zs.getD j z0)) b (j * 2) (zs.getD i z0)) b sp (swp zs i j) :=
 (h.set i hi _).set j (by simpa using hj) _
def Small (t : Tri) : Prop := 0 ≤ t.1 ∧ t.1 ≤ 2000000
def ekey (t : Tri) : Int := - t.1
def prv (t : Tri) : Value := .agg #[.int .i64 t.1, .int .i64 t.2.1]
theorem prv_eq (x y z : Int) : prv (x, y, z) = .agg #[.int .i64 x, .int .i64 y] := rfl
theorem ecmp_any (s t : Tri) (w : World) (hs : Small s) (ht : Small t) :
  Calls Tryz.prog 110 #[prv s, prv t] w fun e w' => e = .returned (.int .i64 (ekey t - ekey s)) ∧ Keeps [] w w' := by
 obtain ⟨x, y, z⟩ := s
 obtain ⟨x2, y2, z2⟩ := t
 obtain ⟨h1, h2⟩ := hs
 obtain ⟨h3, h4⟩ := ht
 simp only at h1 h2 h3 h4
 have HE := gI (show ekey (x2, y2, z2) - ekey (x, y, z) = x - x2 by unfold ekey; simp only; omega)
 simp only [prv_eq]
 rw [HE.out]
 go_enter Tryz.func110, Tryz.ntmps110
 go_wp2
 go_ret
 exact ⟨rfl, ((Keeps.refl [] w).alloc _).alloc _⟩
theorem ecmp_regrown (s t : Tri) (w : World) (hs : Small s) (ht : Small t) (d : Nat) (os : Array Obj) :
  Calls Tryz.prog 110 #[prv s, prv t] (grow (redrawn w d) os) fun e w'' => e = .returned (.int .i64 (ekey t - ekey s)) ∧ ∃ p : Regrown, w'' = grow (redrawn w p.d) p.os :=
 Calls.regrown_of ((ecmp_any s t _ hs ht).mono fun _ _ h => ⟨h.1, h.2.below (Nat.le_refl _)⟩)
def ecmpV : Value := .func (.func 110) #[] #[]
theorem esort_any (g : Nat) (sp : List Value) (xs : List Tri) (c a b : Nat) (w : World) (hI : Prs 155 w g sp xs)
  (hr : ∀ x ∈ xs, Small x) (hab : a ≤ b) (hb : b ≤ xs.length) (hxl : xs.length ≤ 1000000) :
  Calls Tryz.prog 122 #[.slice (some ⟨g, 0, none⟩) xs.length c, .int .i64 a, .int .i64 b, ecmpV] w fun e w' =>
   e = .returned (.tuple #[]) ∧ ∃ ys, Prs 155 w' g sp ys ∧ Turned xs ys a b ∧ Desc ekey ys a b ∧ Keeps [g] w w' := by
 have HI := gI hI
 have HR := gI hr
 clear hI hr
 unfold ecmpV
 go_enter Tryz.func122, Tryz.ntmps122
 go_wp2
 go_loopw [8, 9] (fun i _ wr => ∃ (k : Nat) (ys : List Tri), a + 1 ≤ k ∧ (k ≤ b ∨ k = a + 1) ∧ i = .int .i64 k ∧ Prs 155 wr g sp ys ∧ Turned xs ys a b ∧ Desc ekey ys a k ∧ Keeps [g] w wr) (fun i _ _ => b - (intOf i).toNat)
 case atStart => exact ⟨a + 1, xs, by omega, by omega, by go_num, HI.out, Turned.refl _ _ _, fun p q h1 h2 h3 => by omega, Keeps.refl _ _⟩
 case round =>
  obtain ⟨k, ys, hk1, hk2, rfl, hIy, hT, hDs, hK⟩ := hrel
  have HL := gI hT.len
  have HIy := gI hIy
  have HT := gI hT
  have HDs := gI hDs
  have HK := gI hK
  clear hIy hT hDs hK
  by_cases hlt : k < b
  ·go_wp2
   obtain ⟨wo, hwo⟩ : ∃ wo : World, wo = wr := ⟨_, rfl⟩
   go_loopw [9] (fun j wi => ∃ (m : Nat) (zs : List Tri), a ≤ m ∧ m ≤ k ∧ j = .int .i64 m ∧ Prs 155 wi g sp zs ∧ Turned xs zs a b ∧ Sink ekey zs a m k ∧ Keeps [g] w wi) (fun j _ => (intOf j).toNat)
   case atStart => exact ⟨k, ys, by omega, by omega, rfl, HIy.out, HT.out, Sink.start HDs.out, HK.out⟩
   case round =>
    obtain ⟨m, zs, hm1, hm2, rfl, hIz, hTz, hSk, hKz⟩ := hrel
    have hlz := hTz.len
    have hRz : ∀ x ∈ zs, Small x := fun x hx => HR.out x (hTz.perm.mem_iff.1 hx)
    have HLZ := gI hlz
    have HIz := gI hIz
    have HTz := gI hTz
    have HSk := gI hSk
    have HKz := gI hKz
    by_cases hma : m = a
    ·have hdec : decide (a < m) = false := by simp [hma]
     have HMA := gI hma
     clear hlz hIz hTz hSk hKz hRz hma
     go_wp2
     go_quiet (fail)
     go_wp2
     go_roundw
     case rel => exact ⟨k + 1, zs, by omega, by omega, by go_num, HIz.out.drewN _, HTz.out, HSk.out.done hm2 (.inl HMA.out), HKz.out.drewN _⟩
     case measure => simp [intOf]; omega
    ·obtain ⟨n, rfl⟩ : ∃ n, m = n + 1 := ⟨m - 1, by omega⟩
     have ha1 : a ≤ n := by omega
     have ha2 : a < n + 1 := by omega
     have ha3 : (a : Int) < (n : Int) + 1 := by omega
     have ha4 : (a : Int) ≤ (n : Int) := by omega
     obtain ⟨d1, d2⟩ := hIz.cells (n + 1) (by omega)
     obtain ⟨c1, c2⟩ := hIz.cells n (by omega)
     have k1 := hRz (zs.getD (n + 1) z0) (by rw [List.getD_eq_getElem?_getD, List.getElem?_eq_getElem (by omega)]; simp)
     have k0 := hRz (zs.getD n z0) (by rw [List.getD_eq_getElem?_getD, List.getElem?_eq_getElem (by omega)]; simp)
     obtain ⟨x1, hx1⟩ : ∃ x, x = zs.getD (n + 1) z0 := ⟨_, rfl⟩
     obtain ⟨x0, hx0⟩ : ∃ x, x = zs.getD n z0 := ⟨_, rfl⟩
     rw [← hx1] at d1 d2 k1
     rw [← hx0] at c1 c2 k0
     have cE := fun d os => ecmp_regrown x1 x0 wr k1 k0 d os
     have HX1 := gI hx1
     have HX0 := gI hx0
     clear hlz hIz hTz hSk hKz hRz hx1 hx0 k1 k0
     have hsw := HIz.out.swp (n + 1) n (by have := HLZ.out; omega) (by have := HLZ.out; omega)
     rw [← HX1.out, ← HX0.out] at hsw
     have HSW := gI (show ∀ W, Keeps [] wr W → Prs 155 (Go.Proofs.YtkekenaamnhbhaaGreat.put2 (Go.Proofs.YtkekenaamnhbhaaGreat.put2 W g ((n + 1) * 2) x0) g (n * 2) x1) g sp (swp zs (n + 1) n) from fun W hW => by
      have h := (HIz.out.keep hW (by simp)).swp (n + 1) n (by have := HLZ.out; omega) (by have := HLZ.out; omega)
      rw [← HX1.out, ← HX0.out] at h
      exact h)
     have hcm : swp zs (n + 1) n = swp zs n (n + 1) := swp_comm _ _ _ (by have := HLZ.out; omega) (by have := HLZ.out; omega)
     have HCM := gI hcm
     have HCK := gI (show (ekey x0 < ekey x1) = (ekey (zs.getD n z0) < ekey (zs.getD (n + 1) z0)) by rw [HX1.out, HX0.out])
     clear hsw hcm
     obtain ⟨cv, hcv⟩ : ∃ cv, cv = ekey x0 - ekey x1 := ⟨_, rfl⟩
     have HCV := gI (show (cv < 0) = (ekey x0 < ekey x1) by rw [hcv]; exact propext ⟨fun h => by omega, fun h => by omega⟩)
     simp only [← hcv] at cE
     clear hcv
     obtain ⟨p1, p2, p3⟩ := x1
     obtain ⟨q1, q2, q3⟩ := x0
     simp only [prv_eq] at d1 d2 c1 c2 cE
     have CE := gI cE
     have D1 := cell_regrown d1
     have D2 := cell_regrown d2
     have C1 := cell_regrown c1
     have C2 := cell_regrown c2
     clear cE
     by_cases hc : cv < 0
     ·have HC := gI (HCV.out ▸ hc)
      clear d1 d2 c1 c2
      go_upto_region 4 with fail
      refine wp_region_quiet_below (by kernel_rfl) (by kernel_rfl) ?_
      repeat (go_big_quiet_step (exact CE.out _ _))
      refine wpQuiet_nil ?_
      intro _ hw'
      obtain ⟨pq, hw''⟩ := hw'
      subst hw''
      have hk := Keeps.of_below (below_regrown wr pq.d pq.os)
      have HIw := gI (HIz.out.keep hk (by simp))
      have HKw := gI (HKz.out.trans (hk.mono (by simp)))
      have d1 := D1 pq.d pq.os
      have d2 := D2 pq.d pq.os
      have c1 := C1 pq.d pq.os
      have c2 := C2 pq.d pq.os
      have HSZ := gI (HSW.out _ hk)
      have f1 := HIw.out.fz ((n + 1) * 2)
      have f2 := HIw.out.fz ((n + 1) * 2 + 1)
      have g1 := HIw.out.fz (n * 2)
      have g2 := HIw.out.fz (n * 2 + 1)
      clear hk HSW D1 D2 C1 C2 HIz HKz CE
      generalize grow (redrawn wr pq.d) pq.os = Z at *
      go_wp2
      go_region
      go_wp2
      go_roundw
      case rel =>
       have hk := HC.out
       rw [HCK.out] at hk
       have hl := HLZ.out
       refine ⟨n, swp zs (n + 1) n, ha1, by omega, by go_num, ?_, HTz.out.trans (Turned.swp _ _ _ _ _ (by omega) (by omega) (by omega) (by omega) (by omega) (by omega)), ?_, ?_⟩
       ·exact Prs.drew HSZ.out
       ·rw [HCM.out]; exact HSk.out.step (by omega) ha1 hm2 hk
       ·exact ((HKw.out.put2 (b := g) (by simp) ((n + 1) * 2) (q1, q2, q3)).put2 (b := g) (by simp) (n * 2) (p1, p2, p3)).drew
      case measure => simp [intOf]
     ·have HC := gI hc
      clear d1 d2 c1 c2
      go_upto_region 4 with fail
      refine wp_region_quiet_below (by kernel_rfl) (by kernel_rfl) ?_
      repeat (go_big_quiet_step (exact CE.out _ _))
      refine wpQuiet_nil ?_
      intro _ hw'
      obtain ⟨pq, hw''⟩ := hw'
      subst hw''
      have hk := Keeps.of_below (below_regrown wr pq.d pq.os)
      have HIw := gI (HIz.out.keep hk (by simp))
      have HKw := gI (HKz.out.trans (hk.mono (by simp)))
      clear hk HSW D1 D2 C1 C2 HIz HKz CE
      generalize grow (redrawn wr pq.d) pq.os = Z at *
      go_wp2
      go_roundw
      case rel =>
       have hk := HC.out
       rw [HCV.out, HCK.out] at hk
       exact ⟨k + 1, zs, by omega, by omega, by go_num, HIw.out, HTz.out, HSk.out.done hm2 (.inr ⟨n, rfl, ha1, by omega⟩), HKw.out⟩
      case measure => simp [intOf]; omega
  ·have hkb : ∀ zs, Desc ekey zs a k → Desc ekey zs a b := fun zs h p q h1 h2 h3 => h p q h1 h2 (by omega)
   have HKB := gI hkb
   clear hkb
   go_wp2
   go_end0
   exact ⟨rfl, ys, HIy.out, HT.out, HKB.out _ HDs.out, HK.out⟩
end
end Go.Proofs.YtkekenaamnhbhaaGreat
