/- Part 36 of the proof. No condition: every lemma says its own. -/
import Derived.Test.YtkekenaamnhbhaaGreatZsbi
namespace Go.Proofs.YtkekenaamnhbhaaGreat
open Go.RowKit Go.Sort Go.BigFrame
set_option maxRecDepth 100000
set_option maxHeartbeats 16000000
theorem len64_12 (n : Nat) (hn : n ≤ 12) (w : World) : Calls Tryz.prog 131 #[.int .u64 n] w fun e w' => (∃ v : Int, e = .returned (.int .i64 v)) ∧ w = w' := by
 have h : n = 0 ∨ n = 1 ∨ n = 2 ∨ n = 3 ∨ n = 4 ∨ n = 5 ∨ n = 6 ∨ n = 7 ∨ n = 8 ∨ n = 9 ∨ n = 10 ∨ n = 11 ∨ n = 12 := by omega
 rcases h with rfl | rfl | rfl | rfl | rfl | rfl | rfl | rfl | rfl | rfl | rfl | rfl | rfl
 all_goals
  go_enter Tryz.func131, Tryz.ntmps131
  go_wp2
  go_ret
  exact ⟨⟨_, rfl⟩, rfl⟩
theorem len_12 (n : Nat) (hn : n ≤ 12) (w : World) : Calls Tryz.prog 119 #[.int .u64 n] w fun e w' => (∃ v : Int, e = .returned (.int .i64 v)) ∧ w = w' := by
 go_enter Tryz.func119, Tryz.ntmps119
 go_wp2_with (go_at_call 131; refine (len64_12 n hn _).mono ?_; rintro e w' ⟨⟨v, rfl⟩, rfl⟩)
 go_ret
 exact ⟨⟨_, rfl⟩, rfl⟩
theorem esort_nil (w : World) : Calls Tryz.prog 122 #[.slice none 0 0, .int .i64 0, .int .i64 0, ecmpV] w fun e w' => e = .returned (.tuple #[]) ∧ w = w' := by
 unfold ecmpV
 go_enter Tryz.func122, Tryz.ntmps122
 go_wp2
 go_loopw [8] (fun i wr => i = .int .i64 1 ∧ w = wr) (fun _ _ => 0)
 case atStart => exact ⟨rfl, rfl⟩
 case round =>
  obtain ⟨rfl, rfl⟩ := hrel
  go_wp2
  go_end0
  exact ⟨rfl, rfl⟩
def Sorted (ga : Option Nat) (xs : List Tri) (c : Nat) (w : World) (e : Ending) (w' : World) : Prop :=
 e = .returned (.tuple #[]) ∧ ∃ ys, SliceAt w' 155 2 ga ys.length c (prF ys) ∧ ys.Perm xs ∧ Desc ekey ys 0 ys.length ∧ Keeps ga.toList w w'
theorem esort_sl (ga : Option Nat) (xs : List Tri) (c : Nat) (w : World) (hI : SliceAt w 155 2 ga xs.length c (prF xs)) (hr : ∀ x ∈ xs, Small x) (hxl : xs.length ≤ 1000000) :
  Calls Tryz.prog 122 #[sv ga xs.length c, .int .i64 0, .int .i64 xs.length, ecmpV] w (Sorted ga xs c w) := by
 cases ga with
 | none =>
  obtain ⟨h1, h2, rfl⟩ := hI
  have hx : xs = [] := List.eq_nil_of_length_eq_zero h2
  subst hx
  refine (esort_nil w).mono ?_
  rintro e w' ⟨rfl, rfl⟩
  exact ⟨rfl, [], SliceAt.nil _ _ _, .refl _, fun a b _ _ h => by simp at h, Keeps.refl _ _⟩
 | some g =>
  obtain ⟨h1, cur, h2, h3, h4, h5, h6⟩ := hI
  have ht : Prs 155 w g (cur.toList.drop (xs.length * 2)) xs := by
   unfold Prs
   rw [h2, ← h6, List.take_append_drop]
  refine (esort_any g _ xs c 0 xs.length w ht hr (Nat.zero_le _) (Nat.le_refl _) hxl).mono ?_
  rintro e w' ⟨rfl, ys, k1, k2, k3, k4⟩
  have hl := k2.len
  refine ⟨rfl, ys, ⟨prF_length ys, _, k1, by omega, h4, ?_, ?_⟩, k2.perm, by rw [hl]; exact k3, by simpa using k4⟩
  ·simp only [List.size_toArray, List.length_append, prF_length, List.length_drop, Array.length_toList]
   omega
  ·rw [hl, ← hl, ← prF_length ys]
   exact List.take_left
theorem pdq_any (ga : Option Nat) (xs : List Tri) (c : Nat) (v : Int) (w : World) (hI : SliceAt w 155 2 ga xs.length c (prF xs)) (hr : ∀ x ∈ xs, Small x) (hxl : xs.length ≤ 12) :
  Calls Tryz.prog 118 #[sv ga xs.length c, .int .i64 0, .int .i64 xs.length, .int .i64 v, ecmpV] w (Sorted ga xs c w) := by
 have H0 := gI (esort_sl ga xs c w hI hr (by omega))
 generalize hn : xs.length = n at *
 clear hI hr
 unfold ecmpV sv at *
 go_enter Tryz.func118, Tryz.ntmps118
 go_wp2
 go_loopw [1, 2] (fun s1 s2 wr => s1 = .int .i64 0 ∧ s2 = .int .i64 n ∧ w = wr) (fun _ _ _ => 0)
 case atStart => exact ⟨rfl, rfl, rfl⟩
 case round =>
  obtain ⟨rfl, rfl, rfl⟩ := hrel
  go_wp2_with (go_at_call 122; refine H0.out.mono ?_)
  rintro e w1 ⟨rfl, h1⟩
  have H1 := gI h1
  clear h1
  go_wp2
  go_end0
  exact ⟨rfl, H1.out⟩
theorem sortEnds_any (ga : Option Nat) (xs : List Tri) (c : Nat) (w : World) (hI : SliceAt w 155 2 ga xs.length c (prF xs)) (hr : ∀ x ∈ xs, Small x) (hxl : xs.length ≤ 12) :
  Calls Tryz.prog 109 #[sv ga xs.length c, ecmpV] w (Sorted ga xs c w) := by
 have H0 := gI (fun v => pdq_any ga xs c v w hI hr (by omega))
 have HL := gI (fun W => len_12 xs.length hxl W)
 clear hI hr
 unfold ecmpV sv at *
 go_enter Tryz.func109, Tryz.ntmps109
 go_wp2_with (go_at_call 119; refine (HL.out _).mono ?_; rintro e w' ⟨⟨v, rfl⟩, rfl⟩)
 go_wp2_with (go_at_call 118; refine (H0.out _).mono ?_)
 rintro e w1 ⟨rfl, h1⟩
 have H1 := gI h1
 clear h1
 go_wp2
 go_end0
 exact ⟨rfl, H1.out⟩
theorem infoEnd : (Tryz.prog.info? 155).map (fun i => (i.zero, i.size, i.bytes)) = some (some (.agg #[.int .i64 0, .int .i64 0]), 2, 16) := by kernel_rfl
def ends1 (top i : Int) (s : Int × Int) : List Tri := (if s.1 ≤ top then [(s.1, i, 0)] else []) ++ (if s.2 + 1 ≤ top then [(s.2 + 1, i, 0)] else [])
def endsI (top i : Int) (l : List (Int × Int)) : List Tri := l.flatMap (ends1 top i)
def spk (cls : List Cl) (k : Nat) : List (Int × Int) := (cls.map Cl.sp).getD k []
theorem spk_lt {cls : List Cl} {k : Nat} (h : k < cls.length) : spk cls k = (cls[k]).sp := by simp [spk, List.getD, h]
def endsK (top : Int) (cls : List Cl) (k : Nat) : List Tri := (List.range k).flatMap fun (i : Nat) => endsI top i (spk cls i)
theorem endsK_succ (top : Int) (cls : List Cl) (k : Nat) : endsK top cls (k + 1) = endsK top cls k ++ endsI top k (spk cls k) := by
 simp [endsK, List.range_succ, List.flatMap_append]
theorem ends1_le (top i : Int) (s : Int × Int) : (ends1 top i s).length ≤ 2 := by
 unfold ends1
 split <;> split <;> simp
theorem endsI_le (top i : Int) : ∀ l : List (Int × Int), (endsI top i l).length ≤ 2 * l.length
 | [] => by simp [endsI]
 | s :: l => by
  have h1 := endsI_le top i l
  have h2 := ends1_le top i s
  simp only [endsI, List.flatMap_cons, List.length_append, List.length_cons] at *
  omega
theorem endsI_take (top i : Int) (l : List (Int × Int)) (q : Nat) (h : q < l.length) : endsI top i (l.take (q + 1)) = endsI top i (l.take q) ++ ends1 top i l[q] := by
 rw [List.take_succ_eq_append_getElem h, endsI, List.flatMap_append]
 simp [endsI]
structure SetsOK (w : World) (ca : Option Addr) (cls : List Cl) : Prop where
 at_ : ClsIn w ca cls
 sp : ∀ k ∈ cls, SpIn w k.a k.sp ∧ k.sp.length ≤ 1000000 ∧ ∀ s ∈ k.sp, 0 ≤ s.1 ∧ s.1 ≤ s.2 ∧ s.2 ≤ 1114111
 len : cls.length ≤ 1000000
theorem SetsOK.keep {w w' : World} {ca : Option Addr} {cls : List Cl} (h : SetsOK w ca cls) (k : Keeps [] w w') : SetsOK w' ca cls :=
 ⟨h.at_.keep k, fun x hx => ⟨(h.sp x hx).1.keep k, (h.sp x hx).2⟩, h.len⟩
theorem endsK_le {w : World} {ca : Option Addr} {cls : List Cl} (h : SetsOK w ca cls) (top : Int) : ∀ k, k ≤ cls.length → (endsK top cls k).length ≤ 2000000 * k
 | 0, _ => by simp [endsK]
 | k + 1, hk => by
  rw [endsK_succ, List.length_append]
  have h1 := endsK_le h top k (by omega)
  have h2 := endsI_le top k (spk cls k)
  rw [spk_lt (by omega)] at h2 ⊢
  have h3 := (h.sp cls[k] (List.getElem_mem (by omega))).2.1
  omega
theorem ends1_small {top i : Int} {s : Int × Int} (ht : top ≤ 1114111) (h : 0 ≤ s.1 ∧ s.1 ≤ s.2 ∧ s.2 ≤ 1114111) : ∀ x ∈ ends1 top i s, Small x := by
 intro x hx
 unfold ends1 at hx
 rw [List.mem_append] at hx
 rcases hx with hx | hx
 ·split at hx
  ·simp at hx; subst hx; exact ⟨h.1, by simp only; omega⟩
  ·simp at hx
 ·split at hx
  ·simp at hx; subst hx; exact ⟨by simp only; omega, by simp only; omega⟩
  ·simp at hx
theorem endsK_small {w : World} {ca : Option Addr} {cls : List Cl} (h : SetsOK w ca cls) {top : Int} (ht : top ≤ 1114111) : ∀ x ∈ endsK top cls cls.length, Small x := by
 intro x hx
 simp only [endsK, List.mem_flatMap, List.mem_range] at hx
 obtain ⟨i, hi, hx⟩ := hx
 simp only [endsI, List.mem_flatMap] at hx
 obtain ⟨s, hs, hx⟩ := hx
 rw [spk_lt hi] at hs
 exact ends1_small ht ((h.sp cls[i] (List.getElem_mem hi)).2.2 s hs) x hx
def EndsAt (w0 w : World) (a : Option Nat) (c : Nat) (r : List Tri) : Prop := SliceAt w 155 2 a r.length c (prF r) ∧ Keeps [] w0 w ∧ ∀ q, a = some q → w0.heap.size ≤ q
theorem EndsAt.push {w0 w w' : World} {a : Option Nat} {c : Nat} {r : List Tri} (h : EndsAt w0 w a c r) (t : Tri) (g c' : Nat) (hs : SliceAt w' 155 2 (some g) (r.length + 1) c' (prF r ++ prL t)) (hk : Keeps a.toList w w') (hg : a = some g ∨ w.heap.size ≤ g) : EndsAt w0 w' (some g) c' (r ++ [t]) := by
 obtain ⟨h1, h2, h3⟩ := h
 refine ⟨?_, h2.after hk (fun x hx => .inr (h3 x (by simpa using hx))), ?_⟩
 ·rw [List.length_append, List.length_singleton, prF_append]
  simpa [prF] using hs
 ·rintro q ⟨⟩
  rcases hg with hg | hg
  ·exact h3 _ hg
  ·have := h2.size; omega
theorem EndsAt.keep {w0 w w' : World} {a : Option Nat} {c : Nat} {r : List Tri} (h : EndsAt w0 w a c r) (k : Keeps [] w w') : EndsAt w0 w' a c r :=
 ⟨h.1.keep k (by simp), h.2.1.trans k, h.2.2⟩
theorem endsOf_any {W0 : World} {ca : Option Addr} {cc : Nat} {cls : List Cl} {top : Int} (hset : SetsOK W0 ca cls) (ht : top ≤ 1114111) (h12 : (endsK top cls cls.length).length ≤ 12) :
  Calls Tryz.prog 88 #[.slice ca cls.length cc, .int .i64 top] W0 fun e w' =>
   ∃ (ys : List Tri) (a : Option Nat) (c : Nat), e = .returned (sv a ys.length c) ∧ EndsAt W0 w' a c ys ∧ ys.Perm (endsK top cls cls.length) ∧ Desc ekey ys 0 ys.length := by
 obtain ⟨ie, hie, hez, hes, heb⟩ := infoParts infoEnd
 have HIE := gI hie
 have HEZ := gI hez
 have HES := gI hes
 have HEB := gI heb
 have HSET := gI hset
 have H12 := gI h12
 have hcn := hset.len
 clear hie hez hes heb hset h12
 go_enter Tryz.func88, Tryz.ntmps88
 go_wp2
 go_loopw [5, 12] (fun v5 v12 wr => ∃ (k : Nat) (r : List Tri) (a : Option Nat) (c : Nat), v5 = .slice (a.map fun g => ⟨g, 0, none⟩) r.length c ∧ v12 = .int .i64 k ∧ k ≤ cls.length ∧ r = endsK top cls k ∧ EndsAt W0 wr a c r) (fun _ v12 _ => cls.length - (intOf v12).toNat)
 case atStart => exact ⟨0, [], none, 0, rfl, rfl, Nat.zero_le _, rfl, SliceAt.nil _ _ _, Keeps.refl _ _, fun q h => by cases h⟩
 case round =>
  obtain ⟨k, r, a, c, rfl, rfl, hkw, hr, hrs⟩ := hrel
  obtain ⟨wA, hwA⟩ : ∃ wA : World, wA = wr := ⟨_, rfl⟩
  subst hwA
  have HR := gI hr
  have HRS := gI hrs
  by_cases hkl : k < cls.length
  ·have hS := HSET.out.keep hrs.2.1
   obtain ⟨cb, coff, rfl, hcc⟩ := hS.at_ (by omega)
   have e0 := hcc k hkl
   obtain ⟨hs1, hs2, hs3⟩ := HSET.out.sp cls[k] (List.getElem_mem hkl)
   have HSP := gI (spk_lt hkl)
   have HKS := gI (endsK_succ top cls k)
   rw [HSP.out] at HKS
   obtain ⟨sp, hsp⟩ : ∃ s, s = (cls[k]).sp := ⟨_, rfl⟩
   obtain ⟨spa, hspa⟩ : ∃ s, s = (cls[k]).a := ⟨_, rfl⟩
   obtain ⟨spc, hspc⟩ : ∃ s, s = (cls[k]).c := ⟨_, rfl⟩
   rw [← hsp, ← hspa] at hs1
   rw [← hsp] at hs2 hs3 HKS
   rw [← hsp, ← hspa, ← hspc] at e0
   have HSI := gI hs1
   have HS3 := gI hs3
   have HRL := gI (endsK_le HSET.out top k hkw)
   clear hr hrs hS hcc hs1 hs3 hsp hspa hspc HSP
   go_wp2
   go_loopw [5, 19] (fun v5 v19 wr => ∃ (q : Nat) (r2 : List Tri) (a2 : Option Nat) (c2 : Nat), v5 = .slice (a2.map fun g => ⟨g, 0, none⟩) r2.length c2 ∧ v19 = .int .i64 q ∧ q ≤ sp.length ∧ r2 = r ++ endsI top k (sp.take q) ∧ EndsAt W0 wr a2 c2 r2) (fun _ v19 _ => sp.length - (intOf v19).toNat)
   case atStart => exact ⟨0, r, a, c, rfl, rfl, Nat.zero_le _, by simp [endsI], HRS.out⟩
   case round =>
    obtain ⟨q, r2, a2, c2, rfl, rfl, hq, hr2, hrs2⟩ := hrel
    obtain ⟨wB, hwB⟩ : ∃ wB : World, wB = wr := ⟨_, rfl⟩
    subst hwB
    have HR2 := gI hr2
    have HRS2 := gI hrs2
    by_cases hql : q < sp.length
    ·obtain ⟨sb, soff, rfl, hsc⟩ := (HSI.out.keep hrs2.2.1) (by omega)
     obtain ⟨s0, s1⟩ := hsc q hql
     have HTK := gI (endsI_take top k sp q hql)
     obtain ⟨hb0, hb1, hb2⟩ := HS3.out sp[q] (List.getElem_mem hql)
     have hl2 : r2.length ≤ 2000000 * k + 2 * q := by
      have h1 := HRL.out
      have h2 := endsI_le top k (sp.take q)
      rw [List.length_take] at h2
      rw [hr2, List.length_append, HR.out]
      omega
     have HL2 := gI hl2
     obtain ⟨lo, hlo⟩ : ∃ x, x = (sp[q]).1 := ⟨_, rfl⟩
     obtain ⟨hi, hhi⟩ : ∃ x, x = (sp[q]).2 := ⟨_, rfl⟩
     have HE1 := gI (show ends1 top k sp[q] = (if lo ≤ top then [(lo, (k : Int), (0 : Int))] else []) ++ (if hi + 1 ≤ top then [(hi + 1, (k : Int), (0 : Int))] else []) by rw [hlo, hhi]; rfl)
     rw [← hlo] at s0 hb0 hb1
     rw [← hhi] at s1 hb1 hb2
     clear hr2 hrs2 hsc hl2 hlo hhi
     go_upto_region 8 with fail
     obtain ⟨X, hX⟩ : ∃ X, X = wB.alloc (.cells #[.int .i64 lo, .int .i64 hi] 51) := ⟨_, rfl⟩
     obtain ⟨B, hB⟩ : ∃ B, B = wB.heap.size := ⟨_, rfl⟩
     have x0 : X.cell? ⟨B, 0, none⟩ = some (.int .i64 lo) := by rw [hX, hB]; exact cell_of_row _ _ _ _ _ _ (heap_alloc_new wB _)
     have x1 : X.cell? ⟨B, 1, none⟩ = some (.int .i64 hi) := by rw [hX, hB]; exact cell_of_row _ _ _ _ _ _ (heap_alloc_new wB _)
     have HX := gI (show EndsAt W0 X a2 c2 r2 from HRS2.out.keep (by rw [hX]; exact Keeps.a1 _ _))
     have HBA := gI (show ∀ g, a2 = some g → g < B from fun g hg => by subst hg; rw [hB]; exact HRS2.out.1.lt)
     rw [← hX, ← hB]
     clear s0 s1 hX hB
     by_cases h1 : lo ≤ top
     ·go_wp2_with (at_builtin; refine wpList_append_sl rfl (.tmp 27) (.tmp 32) 150 rfl 155 ie _ 2 16 Tryz.underlying150 HIE.out HEZ.out HES.out HEB.out rfl (by decide) a2 (r2).length c2 (prF (r2)) rfl (HX.out.1.alloc _) ⟨X.heap.size, 0, none⟩ 1 1 (prL (lo, (k : Int), 0)) rfl rfl (news_row' _ _ _ _ rfl) (by intro u hu; simp [prL] at hu; rcases hu with rfl | rfl <;> rfl) (by decide) (by have := HL2.out; simp; omega) (by have := HL2.out; simp; omega) ?hk6)
      case hk6 =>
       intro g6 c6 w6 hs6 hk6 hg6
       have H6 := gI ((HX.out.keep (Keeps.a1 X (.cells #[.int .i64 lo, .int .i64 k] 155))).push (lo, (k : Int), 0) g6 c6 hs6 hk6 (by simpa using hg6))
       have y1 := hk6.cell (show (X.alloc (.cells #[.int .i64 lo, .int .i64 k] 155)).cell? ⟨B, 1, none⟩ = some (.int .i64 hi) from ((Keeps.a1 X (.cells #[.int .i64 lo, .int .i64 k] 155))).cell x1 (by simp)) (fun hm => by have := HBA.out B (by simpa using hm); omega)
       clear hs6 hk6 hg6 x0 x1
       by_cases h2 : hi + 1 ≤ top
       ·go_wp2_with (at_builtin; refine wpList_append_sl rfl (.tmp 39) (.tmp 45) 150 rfl 155 ie _ 2 16 Tryz.underlying150 HIE.out HEZ.out HES.out HEB.out rfl (by decide) (some g6) (r2.length + 1) c6 (prF (r2 ++ [(lo, (k : Int), 0)])) rfl ((show SliceAt w6 155 2 (some g6) (r2.length + 1) c6 (prF (r2 ++ [(lo, (k : Int), 0)])) from by have h := H6.out.1; rw [List.length_append, List.length_singleton] at h; exact h).alloc _) ⟨w6.heap.size, 0, none⟩ 1 1 (prL (hi + 1, (k : Int), 0)) rfl rfl (news_row' _ _ _ _ rfl) (by intro u hu; simp [prL] at hu; rcases hu with rfl | rfl <;> rfl) (by decide) (by have := HL2.out; simp; omega) (by have := HL2.out; simp; omega) ?hk7)
        case hk7 =>
         intro g7 c7 w7 hs7 hk7 hg7
         have H7 := gI ((H6.out.keep (Keeps.a1 w6 (.cells #[.int .i64 (hi + 1), .int .i64 k] 155))).push (hi + 1, (k : Int), 0) g7 c7 (by rw [List.length_append, List.length_singleton]; exact hs7) hk7 (by simpa using hg7))
         clear hs7 hk7 hg7 y1
         go_wp2
         go_roundw
         case rel => exact ⟨q + 1, r2 ++ [(lo, (k : Int), 0)] ++ [(hi + 1, (k : Int), 0)], some g7, c7, by simp, by go_num, hql, (by rw [HTK.out, HE1.out, ← List.append_assoc, ← HR2.out]; simp [h1, h2]), H7.out⟩
         case measure => simp [intOf]; omega
       ·go_wp2
        go_roundw
        case rel => exact ⟨q + 1, r2 ++ [(lo, (k : Int), 0)], some g6, c6, by simp, by go_num, hql, (by rw [HTK.out, HE1.out, ← List.append_assoc, ← HR2.out]; simp [h1, h2]), H6.out⟩
        case measure => simp [intOf]; omega
     ·have h2 : ¬ hi + 1 ≤ top := by omega
      go_wp2
      go_roundw
      case rel => exact ⟨q + 1, r2, a2, c2, by simp, by go_num, hql, (by rw [HTK.out, HE1.out, ← List.append_assoc, ← HR2.out]; simp [h1, h2]), HX.out⟩
      case measure => simp [intOf]; omega
    ·obtain rfl : sp.length = q := by omega
     have HE2 := gI (show r2 = endsK top cls (k + 1) by rw [HKS.out, HR2.out, HR.out, List.take_length])
     go_wp2
     go_roundw
     case rel => exact ⟨k + 1, r2, a2, c2, rfl, by go_num, hkl, HE2.out, HRS2.out⟩
     case measure => simp [intOf]; omega
  ·obtain rfl : cls.length = k := by omega
   subst hr
   have HSM := gI (endsK_small HSET.out ht)
   clear hrs
   go_wp2_with (go_at_call 109; refine (sortEnds_any a _ c _ HRS.out.1 HSM.out H12.out).mono ?_)
   rintro e w1 ⟨rfl, ys, k1, k2, k3, k4⟩
   have HL := gI (k2.length_eq)
   have HA := gI (show EndsAt W0 w1 a c ys from ⟨k1, HRS.out.2.1.after k4 (fun x hx => .inr (HRS.out.2.2 x (by simpa using hx))), HRS.out.2.2⟩)
   have HP := gI k2
   have HD := gI k3
   clear k1 k2 k3 k4
   go_wp2
   go_ret
   exact ⟨ys, a, c, by rw [HL.out]; rfl, HA.out, HP.out, HD.out⟩
def t2 (s : Int × Int) : Tri := (s.1, s.2, 0)
def spF (l : List (Int × Int)) : List Value := prF (l.map t2)
theorem spF_length (l : List (Int × Int)) : (spF l).length = l.length * 2 := by rw [spF, prF_length, List.length_map]
theorem spF_append (l r : List (Int × Int)) : spF (l ++ r) = spF l ++ spF r := by rw [spF, List.map_append, prF_append]; rfl
def addS (l : List (Int × Int)) (s : Int × Int) : List (Int × Int) :=
 match l.getLast? with
 | some x => if s.1 ≤ x.2 + 1 then l.dropLast ++ [(x.1, if x.2 < s.2 then s.2 else x.2)] else l ++ [s]
 | none => [s]
theorem addS_nil (s : Int × Int) : addS [] s = [s] := rfl
theorem addS_last (l : List (Int × Int)) (x s : Int × Int) : addS (l ++ [x]) s = if s.1 ≤ x.2 + 1 then l ++ [(x.1, if x.2 < s.2 then s.2 else x.2)] else l ++ [x] ++ [s] := by
 simp [addS]
theorem spF_setLast (l : List (Int × Int)) (x : Int × Int) (v : Int) : (spF (l ++ [x])).set (l.length * 2 + 1) (.int .i64 v) = spF (l ++ [(x.1, v)]) := by
 rw [spF_append, spF_append, List.set_append_right _ _ (by rw [spF_length]; omega), spF_length]
 congr 1
 rw [show l.length * 2 + 1 - l.length * 2 = 1 by omega]
 rfl
theorem infoSpan : (Tryz.prog.info? 51).map (fun i => (i.zero, i.size, i.bytes)) = some (some (.agg #[.int .i64 0, .int .i64 0]), 2, 16) := by kernel_rfl
def AddPost (a : Option Nat) (r : List (Int × Int)) (w : World) (e : Ending) (w' : World) : Prop :=
 ∃ a' c', e = .returned (.slice (a'.map fun g => ⟨g, 0, none⟩) r.length c') ∧ SliceAt w' 51 2 a' r.length c' (spF r) ∧ Keeps a.toList w w' ∧ ∀ q, a' = some q → a = some q ∨ w.heap.size ≤ q
theorem add_push {w : World} {a : Option Nat} {c : Nat} {l : List (Int × Int)} {lo hi : Int} (hl : SliceAt w 51 2 a l.length c (spF l)) (hn : l.length ≤ 1000000)
  (hlast : ∀ x r, l = r ++ [x] → ¬ lo ≤ x.2 + 1 ∧ 0 ≤ x.2 ∧ x.2 ≤ 1114111) :
  Calls Tryz.prog 89 #[.slice (a.map fun g => ⟨g, 0, none⟩) l.length c, .agg #[.int .i64 lo, .int .i64 hi]] w (AddPost a (l ++ [(lo, hi)]) w) := by
 obtain ⟨ie, hie, hez, hes, heb⟩ := infoParts infoSpan
 have HIE := gI hie
 have HEZ := gI hez
 have HES := gI hes
 have HEB := gI heb
 obtain ⟨X, hX⟩ : ∃ X, X = w.alloc (.cells #[.int .i64 lo, .int .i64 hi] 51) := ⟨_, rfl⟩
 obtain ⟨B, hB⟩ : ∃ B, B = w.heap.size := ⟨_, rfl⟩
 have x0 : X.cell? ⟨B, 0, none⟩ = some (.int .i64 lo) := by rw [hX, hB]; exact cell_of_row _ _ _ _ _ _ (heap_alloc_new w _)
 have x1 : X.cell? ⟨B, 1, none⟩ = some (.int .i64 hi) := by rw [hX, hB]; exact cell_of_row _ _ _ _ _ _ (heap_alloc_new w _)
 have HKX := gI (show Keeps [] w X by rw [hX]; exact Keeps.a1 _ _)
 have HXL := gI (hl.keep HKX.out (by simp))
 clear hie hez hes heb hl
 have HEND := gI (show ∀ (Y : World), Keeps [] w Y → ∀ (g6 c6 : Nat) (w6 : World), SliceAt w6 51 2 (some g6) (l.length + 1) c6 (spF l ++ prL (lo, hi, 0)) → Keeps a.toList (Y.alloc (.cells #[.int .i64 lo, .int .i64 hi] 51)) w6 → (a = some g6 ∨ Y.heap.size + 1 ≤ g6) → AddPost a (l ++ [(lo, hi)]) w (.returned (.slice (some ⟨g6, 0, none⟩) (l.length + 1) c6)) w6 from by
  intro Y hY g6 c6 w6 hs6 hk6 hg6
  refine ⟨some g6, c6, by simp, ?_, ?_, ?_⟩
  ·rw [List.length_append, List.length_singleton, spF_append]; exact hs6
  ·exact ((hY.alloc _).mono (by simp)).trans hk6
  ·rintro q ⟨⟩
   have := hY.size
   exact hg6.imp id (fun h => by omega))
 have HXA := gI (show ∀ (Y : World), Keeps [] X Y → SliceAt Y 51 2 a l.length c (spF l) from fun Y hY => HXL.out.keep hY (by simp))
 rcases List.eq_nil_or_concat l with hl0 | ⟨r, x, hxr⟩
 ·subst hl0
  have HX := gI hX
  have HB := gI hB
  clear hX hB
  simp only [List.length_nil] at HEND HXA ⊢
  go_enter Tryz.func89, Tryz.ntmps89
  go_upto_region 2 with fail
  rw [← HX.out, ← HB.out]
  go_quiet (fail)
  have hkY := (Keeps.refl [] X).drewN nq
  have y0 : (X.drewN nq).cell? ⟨B, 0, none⟩ = some (.int .i64 lo) := hkY.cell x0 (by simp)
  have y1 : (X.drewN nq).cell? ⟨B, 1, none⟩ = some (.int .i64 hi) := hkY.cell x1 (by simp)
  have HY := gI (HXA.out _ hkY)
  have HKY := gI (HKX.out.trans hkY)
  clear hkY x0 x1
  generalize X.drewN nq = Y at *
  go_wp2_with (at_builtin; refine wpList_append_sl rfl (.tmp 37) (.tmp 39) 52 rfl 51 ie _ 2 16 Tryz.underlying52 HIE.out HEZ.out HES.out HEB.out rfl (by decide) a 0 c (spF []) rfl (HY.out.alloc _) ⟨Y.heap.size, 0, none⟩ 1 1 (prL (lo, hi, 0)) rfl rfl (news_row' _ _ _ _ rfl) (by intro u hu; simp [prL] at hu; rcases hu with rfl | rfl <;> rfl) (by decide) (by omega) (by omega) ?hk)
  case hk =>
   intro g6 c6 w6 hs6 hk6 hg6
   have HR := gI (HEND.out Y HKY.out g6 c6 w6 hs6 hk6 (by simpa using hg6))
   clear hs6 hk6 hg6
   go_wp2
   go_ret
   exact HR.out
 ·rw [List.concat_eq_append] at hxr
  obtain ⟨hb1, hb2, hb3⟩ := hlast x r hxr
  obtain ⟨n, hn⟩ : ∃ n, l.length = n + 1 := ⟨r.length, by rw [hxr]; simp⟩
  have hrn : r.length = n := by rw [hxr] at hn; simpa using hn
  obtain ⟨g, rfl⟩ := SliceAt.some_of HXL.out (by omega)
  have z1 : X.cell? ⟨g, n * 2 + 1, none⟩ = some (.int .i64 x.2) := by
   have h := HXL.out.cell (n * 2 + 1) (by rw [spF_length]; omega)
   rw [h]
   have h2 : (spF l)[n * 2 + 1]? = some (.int .i64 x.2) := by
    rw [hxr, spF_append, List.getElem?_append_right (by rw [spF_length]; omega), spF_length, hrn, show n * 2 + 1 - n * 2 = 1 by omega]
    rfl
   rw [← h2]
   simp
  obtain ⟨xh, hxh⟩ : ∃ y, y = x.2 := ⟨_, rfl⟩
  rw [← hxh] at z1 hb1 hb2 hb3
  have hdec : decide (lo ≤ xh + 1) = false := by simpa using hb1
  have HX := gI hX
  have HB := gI hB
  have HN := gI hn
  rw [hn] at HXA
  have hnl : n ≤ 1000000 := by omega
  rw [HN.out]
  clear hX hB hxr hxh hlast hn hrn HXL
  go_enter Tryz.func89, Tryz.ntmps89
  go_upto_region 2 with fail
  rw [← HX.out, ← HB.out]
  go_quiet (fail)
  have hkY := (Keeps.refl [] X).drewN nq
  have y0 : (X.drewN nq).cell? ⟨B, 0, none⟩ = some (.int .i64 lo) := hkY.cell x0 (by simp)
  have y1 : (X.drewN nq).cell? ⟨B, 1, none⟩ = some (.int .i64 hi) := hkY.cell x1 (by simp)
  have HY := gI (HXA.out _ hkY)
  have HKY := gI (HKX.out.trans hkY)
  clear hkY x0 x1
  generalize X.drewN nq = Y at *
  go_wp2_with (at_builtin; refine wpList_append_sl rfl (.tmp 37) (.tmp 39) 52 rfl 51 ie _ 2 16 Tryz.underlying52 HIE.out HEZ.out HES.out HEB.out rfl (by decide) (some g) (n + 1) c (spF l) rfl (HY.out.alloc _) ⟨Y.heap.size, 0, none⟩ 1 1 (prL (lo, hi, 0)) rfl rfl (news_row' _ _ _ _ rfl) (by intro u hu; simp [prL] at hu; rcases hu with rfl | rfl <;> rfl) (by decide) (by omega) (by omega) ?hk)
  case hk =>
   intro g6 c6 w6 hs6 hk6 hg6
   have HR := gI (HEND.out Y HKY.out g6 c6 w6 (by rw [HN.out]; exact hs6) hk6 (by simpa using hg6))
   clear hs6 hk6 hg6
   go_wp2
   go_ret
   rw [show l.length + 1 = n + 1 + 1 by rw [HN.out]] at HR; exact HR.out
theorem add_join {w : World} {a : Option Nat} {c : Nat} {r : List (Int × Int)} {x : Int × Int} {lo hi : Int} (hl : SliceAt w 51 2 a (r ++ [x]).length c (spF (r ++ [x]))) (hn : (r ++ [x]).length ≤ 1000000)
  (hb1 : lo ≤ x.2 + 1) (hb2 : 0 ≤ x.2) (hb3 : x.2 ≤ 1114111) :
  Calls Tryz.prog 89 #[.slice (a.map fun g => ⟨g, 0, none⟩) (r ++ [x]).length c, .agg #[.int .i64 lo, .int .i64 hi]] w (AddPost a (r ++ [(x.1, if x.2 < hi then hi else x.2)]) w) := by
 obtain ⟨l, hxr⟩ : ∃ l, l = r ++ [x] := ⟨_, rfl⟩
 rw [← hxr] at hl hn ⊢
 obtain ⟨X, hX⟩ : ∃ X, X = w.alloc (.cells #[.int .i64 lo, .int .i64 hi] 51) := ⟨_, rfl⟩
 obtain ⟨B, hB⟩ : ∃ B, B = w.heap.size := ⟨_, rfl⟩
 have x0 : X.cell? ⟨B, 0, none⟩ = some (.int .i64 lo) := by rw [hX, hB]; exact cell_of_row _ _ _ _ _ _ (heap_alloc_new w _)
 have x1 : X.cell? ⟨B, 1, none⟩ = some (.int .i64 hi) := by rw [hX, hB]; exact cell_of_row _ _ _ _ _ _ (heap_alloc_new w _)
 have HKX := gI (show Keeps [] w X by rw [hX]; exact Keeps.a1 _ _)
 have HXL := gI (hl.keep HKX.out (by simp))
 have HXA := gI (show ∀ (Y : World), Keeps [] X Y → SliceAt Y 51 2 a l.length c (spF l) from fun Y hY => HXL.out.keep hY (by simp))
 have hnl0 := hn
 obtain ⟨n, hn⟩ : ∃ n, l.length = n + 1 := ⟨r.length, by rw [hxr]; simp⟩
 have hrn : r.length = n := by rw [hxr] at hn; simpa using hn
 obtain ⟨g, rfl⟩ := SliceAt.some_of HXL.out (by omega)
 have z1 : X.cell? ⟨g, n * 2 + 1, none⟩ = some (.int .i64 x.2) := by
  have h := HXL.out.cell (n * 2 + 1) (by rw [spF_length]; omega)
  rw [h]
  have h2 : (spF l)[n * 2 + 1]? = some (.int .i64 x.2) := by
   rw [hxr, spF_append, List.getElem?_append_right (by rw [spF_length]; omega), spF_length, hrn, show n * 2 + 1 - n * 2 = 1 by omega]
   rfl
  rw [← h2]
  simp
 obtain ⟨xh, hxh⟩ : ∃ y, y = x.2 := ⟨_, rfl⟩
 rw [← hxh] at z1 hb1 hb2 hb3
 obtain ⟨m, hm⟩ : ∃ m, m = if xh < hi then hi else xh := ⟨_, rfl⟩
 have HM := gI hm
 have hdec : decide (lo ≤ xh + 1) = true := by simpa using hb1
 have HSET := gI (show (spF l).set (n * 2 + 1) (.int .i64 m) = spF (r ++ [(x.1, m)]) by rw [hxr, ← hrn]; exact spF_setLast r x m)
 have HX := gI hX
 have HB := gI hB
 have HN := gI hn
 rw [hn] at HXA
 have hnl : n ≤ 1000000 := by omega
 have HFIN := gI (show (r ++ [(x.1, m)]).length = n + 1 by simp [hrn])
 obtain ⟨xl, hxl⟩ : ∃ y, y = x.1 := ⟨_, rfl⟩
 rw [← hxh, ← hm]
 rw [← hxl] at HSET HFIN ⊢
 clear hxl
 rw [HN.out]
 clear hX hB hxr hxh hn hrn HXL
 clear hl hnl0 hm
 have hc : (xh < hi ∧ m = hi) ∨ (xh = hi ∧ m = xh) ∨ (hi < xh ∧ m = xh) := by
  have h := HM.out
  rcases Int.lt_trichotomy xh hi with h1 | h1 | h1
  ·rw [if_pos h1] at h; exact .inl ⟨h1, h⟩
  ·rw [if_neg (by omega)] at h; exact .inr (.inl ⟨h1, h⟩)
  ·rw [if_neg (by omega)] at h; exact .inr (.inr ⟨h1, h⟩)
 go_enter Tryz.func89, Tryz.ntmps89
 go_upto_region 2 with fail
 rw [← HX.out, ← HB.out]
 go_quiet (fail)
 have hkY := (Keeps.refl [] X).drewN nq
 have y0 : (X.drewN nq).cell? ⟨B, 0, none⟩ = some (.int .i64 lo) := hkY.cell x0 (by simp)
 have y1 : (X.drewN nq).cell? ⟨B, 1, none⟩ = some (.int .i64 hi) := hkY.cell x1 (by simp)
 have v1 : (X.drewN nq).cell? ⟨g, n * 2 + 1, none⟩ = some (.int .i64 xh) := hkY.cell z1 (by simp)
 have HY := gI (HXA.out _ hkY)
 have fz := (HXA.out _ hkY).fz (n * 2 + 1)
 have HKY := gI (HKX.out.trans hkY)
 clear hkY x0 x1 z1
 generalize X.drewN nq = Y at *
 have HEND := gI (show ∀ (Z : World) d, Z = ((Y.setCell ⟨g, n * 2 + 1, none⟩ (.int .i64 m)).drewN d) → AddPost (some g) (r ++ [(xl, m)]) w (.returned (.slice (some ⟨g, 0, none⟩) (n + 1) c)) Z from by
  rintro Z d rfl
  have h := (HY.out.setQ (n * 2 + 1) (.int .i64 m)).drewN d
  rw [HSET.out] at h
  refine ⟨some g, c, by rw [HFIN.out]; rfl, by rw [HFIN.out]; exact h, (((HKY.out.mono (by simp)).setCell (p := ⟨g, n * 2 + 1, none⟩) (by simp) _).drewN d), fun q hq => .inl hq⟩)
 rcases hc with ⟨h1, h2⟩ | ⟨h1, h2⟩ | ⟨h1, h2⟩
 ·have h3 : ¬ hi < xh := by omega
  have h4 : ¬ xh = hi := by omega
  have h5 : ¬ hi = xh := by omega
  have h6 : xh ≤ hi := by omega
  subst h2
  clear HM HX HB hb1 hdec
  go_upto_region 3 with fail
  go_region
  go_wp2
  go_ret
  exact HEND.out _ 1 rfl
 ·subst h2
  subst h1
  clear HM HX HB hb1 hdec
  go_upto_region 3 with fail
  go_region
  go_wp2
  go_ret
  exact HEND.out _ 1 rfl
 ·have h3 : ¬ xh < hi := by omega
  have h4 : ¬ xh = hi := by omega
  have h5 : ¬ hi = xh := by omega
  have h6 : hi ≤ xh := by omega
  subst h2
  clear HM HX HB hb1 hdec
  go_upto_region 3 with fail
  go_region
  go_wp2
  go_ret
  exact HEND.out _ 1 rfl
theorem add_any {w : World} {a : Option Nat} {c : Nat} {l : List (Int × Int)} {lo hi : Int} (hl : SliceAt w 51 2 a l.length c (spF l)) (hn : l.length ≤ 1000000) (hb : ∀ x ∈ l, 0 ≤ x.2 ∧ x.2 ≤ 1114111) :
  Calls Tryz.prog 89 #[.slice (a.map fun g => ⟨g, 0, none⟩) l.length c, .agg #[.int .i64 lo, .int .i64 hi]] w (AddPost a (addS l (lo, hi)) w) := by
 rcases List.eq_nil_or_concat l with rfl | ⟨r, x, hxr⟩
 ·exact add_push hl hn (fun x r h => by simp at h)
 ·rw [List.concat_eq_append] at hxr
  subst hxr
  have hx := hb x (by simp)
  rw [addS_last]
  split
  ·exact add_join hl hn (by assumption) hx.1 hx.2
  ·exact add_push hl hn (fun y r2 h => by
    obtain ⟨h1, h2⟩ := List.append_inj' h rfl
    simp only [List.cons.injEq, and_true] at h2
    subst h2
    exact ⟨by assumption, hx⟩)
end Go.Proofs.YtkekenaamnhbhaaGreat
