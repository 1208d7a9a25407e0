/- sets.right, Valid, limited, either, add. Conditions: the spans lie in memory; Valid: they are in order. -/
import Derived.Test.YtgdmkddegcecaaaGreatApply2
import Derived.Test.YtgdmkddegcecaaaGreatAppend
import Derived.Test.YtgdmkddegcecaaaGreatRow
namespace Go.Proofs.YtgdmkddegcecaaaGreat
open Go.RowKit

theorem SpansOK.bounds : ∀ {l : List (Int × Int)}, SpansOK l → ∀ i (h : i < l.length), 0 ≤ l[i].1 ∧ l[i].1 ≤ l[i].2 ∧ l[i].2 ≤ 1114111
  | [], _, i, h => by simp at h
  | [s], hs, i, h => by
    have : i = 0 := by simpa using h
    subst this
    exact hs
  | s :: t :: r, hs, i, h => by
    obtain ⟨h1, h2, h3, h4⟩ := hs
    cases i with
    | zero =>
      have := SpansOK.bounds h4 0 (by simp)
      simp only [List.getElem_cons_zero] at this ⊢
      exact ⟨h1, h2, by omega⟩
    | succ i => exact SpansOK.bounds h4 i (by simpa using h)
theorem SpansOK.gap : ∀ {l : List (Int × Int)}, SpansOK l → ∀ i (h : i + 1 < l.length), l[i].2 + 2 ≤ l[i + 1].1
  | [], _, i, h => by simp at h
  | [s], hs, i, h => by simp at h
  | s :: t :: r, hs, i, h => by
    obtain ⟨h1, h2, h3, h4⟩ := hs
    cases i with
    | zero => exact h3
    | succ i => exact SpansOK.gap h4 i (by simpa using h)

set_option maxHeartbeats 400000 in
theorem right_any (lo hi : Int) (w : World) (h1 : 0 ≤ lo) (h2 : lo ≤ hi) (h3 : hi ≤ 1114111) :
    Calls Tryz.prog 101 #[.agg #[.int .i64 lo, .int .i64 hi]] w fun e w' => e = .returned (.bool true) ∧ Keeps [] w w' := by
  go_enter Tryz.func101, Tryz.ntmps101
  go_wp2
  go_ret
  exact ⟨rfl, Keeps.a1 _ _⟩

theorem either_any (g : Nat) (b0 b1 : Bool) (c : Nat) (w : World) (h0 : w.cell? ⟨g, 0, none⟩ = some (.bool b0)) (h1 : w.cell? ⟨g, 1, none⟩ = some (.bool b1)) :
    Calls Tryz.prog 86 #[.slice (some ⟨g, 0, none⟩) 2 c] w fun e w' => e = .returned (.bool (b0 || b1)) ∧ w' = w := by
  cases b0
  all_goals
    go_enter Tryz.func86, Tryz.ntmps86
    go_wp2
    go_ret
    exact ⟨by simp, rfl⟩

set_option maxHeartbeats 400000 in
theorem limited_any (a : Option Addr) (n c : Nat) (w : World) :
    Calls Tryz.prog 95 #[.slice a n c] w fun e w' => (if n ≤ 64 then e = .returned (.tuple #[.slice a n c, .int .i64 0]) else e = .returned (.tuple #[.slice none 0 0, .int .i64 4])) ∧ w' = w := by
  by_cases h : n ≤ 64
  · have hi : ¬ (64 : Int) < (n : Int) := by omega
    simp only [if_pos h]
    go_enter Tryz.func95, Tryz.ntmps95
    go_wp2
    go_ret2
    exact ⟨rfl, rfl⟩
  · have hi : (64 : Int) < (n : Int) := by omega
    simp only [if_neg h]
    go_enter Tryz.func95, Tryz.ntmps95
    go_wp2
    go_ret2
    exact ⟨rfl, rfl⟩

set_option maxRecDepth 100000 in
set_option maxHeartbeats 4000000 in
theorem valid_any (sa : Option Addr) (sc : Nat) (l : List (Int × Int)) (w : World) (hs : SpansIn w sa sc l) (ho : SpansOK l) (hn : l.length ≤ 64) :
    Calls Tryz.prog 94 #[.slice sa l.length sc] w fun e w' => e = .returned (.int .i64 0) ∧ Keeps [] w w' := by
  have HS := Lib.hid hs
  have HO := Lib.hid ho.bounds
  have HG := Lib.hid ho.gap
  have hni : ¬ (64 : Int) < (l.length : Int) := by omega
  clear hs ho
  go_enter Tryz.func94, Tryz.ntmps94
  go_wp2
  go_loopw [7] (fun i wr => ∃ k : Nat, k ≤ l.length ∧ i = .int .i64 k ∧ Keeps [] w wr) (fun i _ => l.length - (intOf i).toNat)
  case atStart => exact ⟨0, Nat.zero_le _, rfl, Keeps.refl _ _⟩
  case round =>
    obtain ⟨k, hk, rfl, hkp⟩ := hrel
    have HK := Lib.hid hkp
    by_cases hlt : k < l.length
    · obtain ⟨b, off, rfl, hb, hx⟩ := (HS.out.keep hkp).at_ (by have := HS.out.le; omega)
      obtain ⟨x0, x1⟩ := hx k hlt
      obtain ⟨o1, o2, o3⟩ := HO.out k hlt
      have hgap : ∀ (h : 0 < k), l[k - 1].2 + 2 ≤ l[k].1 := fun h => by
        have h2 := HG.out (k - 1) (by omega)
        have e : k - 1 + 1 = k := by omega
        simp only [e] at h2
        exact h2
      have hprev : ∀ (h : 0 < k), wr.cell? ⟨b, off + (k - 1) * 2 + 1, none⟩ = some (.int .i64 l[k - 1].2) := fun h => (hx (k - 1) (by omega)).2
      have hpb : ∀ (h : 0 < k), 0 ≤ l[k - 1].2 ∧ l[k - 1].2 ≤ 1114111 := fun h => by have := HO.out (k - 1) (by omega); omega
      obtain ⟨lo, hlo⟩ : ∃ lo, lo = l[k].1 := ⟨_, rfl⟩
      obtain ⟨hi, hhi⟩ : ∃ hi, hi = l[k].2 := ⟨_, rfl⟩
      rw [← hlo, ← hhi] at o2
      rw [← hlo] at x0 o1
      rw [← hhi] at x1 o3
      simp only [← hlo] at hgap
      have RI := Lib.hid (fun W => right_any lo hi W o1 o2 o3)
      clear hx hkp hlo hhi
      obtain ⟨C, hC⟩ : ∃ C, C = wr.heap.size := ⟨_, rfl⟩
      have hC0 : ∀ ob, (wr.alloc ob).heap.size = C + 1 := fun ob => by rw [hC]; simp
      go_upto_region 4 with fail
      obtain ⟨Y, hY⟩ : ∃ Y, Y = wr.alloc (.cells #[.int .i64 lo, .int .i64 hi] 80) := ⟨_, rfl⟩
      have hkY : Keeps [] wr Y := by rw [hY]; exact Keeps.a1 _ _
      have hYH : Y.heap[C]? = some (.cells #[.int .i64 lo, .int .i64 hi] 80 (0, 0)) := by rw [hY, hC]; exact heap_alloc_new wr _
      have y0 : Y.cell? ⟨C, 0, none⟩ = some (.int .i64 lo) := by simp [World.cell?, hYH]
      have y1 : Y.cell? ⟨C, 1, none⟩ = some (.int .i64 hi) := by simp [World.cell?, hYH]
      rw [← hY, ← hC]
      have KY := Lib.hid hkY
      clear hY hC hC0 hkY hYH x0 x1
      by_cases h0 : k = 0
      · subst h0
        refine wp_region_held_drew (S := fun w' => w'.cell? ⟨C, 0, none⟩ = some (.int .i64 lo) ∧ w'.cell? ⟨C, 1, none⟩ = some (.int .i64 hi)) (by kernel_rfl) ⟨y0, y1⟩ (fun hHeld => ?_)
        refine take_on (i := 0) (v := ?_) rfl (by kernel_rfl) (by kernel_rfl) (by kernel_rfl) (fun _ _ _ h => h) (by rfl) (by assumption) ?_ ?_
        rotate_left
        · ((intro w hSw; (try dsimp only at hSw); go_simp <;> with_reducible rfl); done)
        try simp only [Act.put, List.setIfInBounds_toArray, List.set_cons_zero, List.set_cons_succ]
        refine branch_one (i := 1) rfl (by kernel_rfl) (by rfl) (fun K hK => ?_)
        go_simp
        go_at_call 101
        refine Calls.mono (RI.out _) ?_
        rintro e w3 ⟨rfl, hk3⟩
        have K3 := Lib.hid (((Keeps.refl [] Y).drew).trans hk3)
        clear hk3
        refine hK.out _ _ (⟨K3.out.cell y0 (by simp), K3.out.cell y1 (by simp)⟩) (fun hHeld => ?_)
        clear hK K
        try simp only [Act.put, List.setIfInBounds_toArray, List.set_cons_zero, List.set_cons_succ]
        refine take_on (i := 2) (v := ?_) rfl (by kernel_rfl) (by kernel_rfl) (by kernel_rfl) (fun _ _ _ h => h) (by rfl) (by assumption) ?_ ?_
        rotate_left
        · ((intro w hSw; (try dsimp only at hSw); go_simp <;> with_reducible rfl); done)
        try simp only [Act.put, List.setIfInBounds_toArray, List.set_cons_zero, List.set_cons_succ]
        refine take_on (i := 3) (v := ?_) rfl (by kernel_rfl) (by kernel_rfl) (by kernel_rfl) (fun _ _ _ h => h) (by rfl) (by assumption) ?_ ?_
        rotate_left
        · ((intro w hSw; (try dsimp only at hSw); go_simp <;> with_reducible rfl); done)
        try simp only [Act.put, List.setIfInBounds_toArray, List.set_cons_zero, List.set_cons_succ]
        refine take_on (i := 4) (v := ?_) rfl (by kernel_rfl) (by kernel_rfl) (by kernel_rfl) (fun _ _ _ h => h) (by rfl) (by assumption) ?_ ?_
        rotate_left
        · ((intro w hSw; (try dsimp only at hSw); go_simp <;> with_reducible rfl); done)
        try simp only [Act.put, List.setIfInBounds_toArray, List.set_cons_zero, List.set_cons_succ]
        refine take_on (i := 5) (v := ?_) rfl (by kernel_rfl) (by kernel_rfl) (by kernel_rfl) (fun _ _ _ h => h) (by rfl) (by assumption) ?_ ?_
        rotate_left
        · ((intro w hSw; (try dsimp only at hSw); go_simp <;> with_reducible rfl); done)
        try simp only [Act.put, List.setIfInBounds_toArray, List.set_cons_zero, List.set_cons_succ]
        refine take_on (i := 6) (v := ?_) rfl (by kernel_rfl) (by kernel_rfl) (by kernel_rfl) (fun _ _ _ h => h) (by rfl) (by assumption) ?_ ?_
        rotate_left
        · ((intro w hSw; (try dsimp only at hSw); go_simp <;> with_reducible rfl); done)
        try simp only [Act.put, List.setIfInBounds_toArray, List.set_cons_zero, List.set_cons_succ]
        refine take_off (i := 7) rfl (by kernel_rfl) (by kernel_rfl) (by kernel_rfl) (fun _ _ _ h => h) (by rfl) (by assumption) ?_
        try simp only [Act.put, List.setIfInBounds_toArray, List.set_cons_zero, List.set_cons_succ]
        refine take_off (i := 8) rfl (by kernel_rfl) (by kernel_rfl) (by kernel_rfl) (fun _ _ _ h => h) (by rfl) (by assumption) ?_
        try simp only [Act.put, List.setIfInBounds_toArray, List.set_cons_zero, List.set_cons_succ]
        refine take_off (i := 9) rfl (by kernel_rfl) (by kernel_rfl) (by kernel_rfl) (fun _ _ _ h => h) (by rfl) (by assumption) ?_
        try simp only [Act.put, List.setIfInBounds_toArray, List.set_cons_zero, List.set_cons_succ]
        refine take_off (i := 10) rfl (by kernel_rfl) (by kernel_rfl) (by kernel_rfl) (fun _ _ _ h => h) (by rfl) (by assumption) ?_
        try simp only [Act.put, List.setIfInBounds_toArray, List.set_cons_zero, List.set_cons_succ]
        refine take_off (i := 11) rfl (by kernel_rfl) (by kernel_rfl) (by kernel_rfl) (fun _ _ _ h => h) (by rfl) (by assumption) ?_
        try simp only [Act.put, List.setIfInBounds_toArray, List.set_cons_zero, List.set_cons_succ]
        refine take_off (i := 12) rfl (by kernel_rfl) (by kernel_rfl) (by kernel_rfl) (fun _ _ _ h => h) (by rfl) (by assumption) ?_
        try simp only [Act.put, List.setIfInBounds_toArray, List.set_cons_zero, List.set_cons_succ]
        refine take_off (i := 13) rfl (by kernel_rfl) (by kernel_rfl) (by kernel_rfl) (fun _ _ _ h => h) (by rfl) (by assumption) ?_
        try simp only [Act.put, List.setIfInBounds_toArray, List.set_cons_zero, List.set_cons_succ]
        refine take_off (i := 14) rfl (by kernel_rfl) (by kernel_rfl) (by kernel_rfl) (fun _ _ _ h => h) (by rfl) (by assumption) ?_
        try simp only [Act.put, List.setIfInBounds_toArray, List.set_cons_zero, List.set_cons_succ]
        refine take_off (i := 15) rfl (by kernel_rfl) (by kernel_rfl) (by kernel_rfl) (fun _ _ _ h => h) (by rfl) (by assumption) ?_
        try simp only [Act.put, List.setIfInBounds_toArray, List.set_cons_zero, List.set_cons_succ]
        refine take_off (i := 16) rfl (by kernel_rfl) (by kernel_rfl) (by kernel_rfl) (fun _ _ _ h => h) (by rfl) (by assumption) ?_
        try simp only [Act.put, List.setIfInBounds_toArray, List.set_cons_zero, List.set_cons_succ]
        refine take_on (i := 17) (v := ?_) rfl (by kernel_rfl) (by kernel_rfl) (by kernel_rfl) (fun _ _ _ h => h) (by rfl) (by assumption) ?_ ?_
        rotate_left
        · ((intro w hSw; (try dsimp only at hSw); go_simp <;> with_reducible rfl); done)
        try simp only [Act.put, List.setIfInBounds_toArray, List.set_cons_zero, List.set_cons_succ]
        refine take_on (i := 18) (v := ?_) rfl (by kernel_rfl) (by kernel_rfl) (by kernel_rfl) (fun _ _ _ h => h) (by rfl) (by assumption) ?_ ?_
        rotate_left
        · ((intro w hSw; (try dsimp only at hSw); go_simp <;> with_reducible rfl); done)
        try simp only [Act.put, List.setIfInBounds_toArray, List.set_cons_zero, List.set_cons_succ]
        refine wpAnyH_done (by kernel_rfl) ?_ _
        have KR := Lib.hid ((HK.out.trans KY.out).trans K3.out)
        clear y0 y1 hHeld
        go_wp2
        go_roundw
        case rel => exact ⟨1, by omega, rfl, KR.out⟩
        case measure => simp [intOf]; omega
      · have hk0 : 0 < k := by omega
        have hg := hgap hk0
        have p0 := KY.out.cell (hprev hk0) (by simp)
        obtain ⟨q1, q2⟩ := hpb hk0
        obtain ⟨z, hz⟩ : ∃ z, z = l[k - 1].2 := ⟨_, rfl⟩
        rw [← hz] at hg p0 q1 q2
        have hk0i : (0 : Int) < (k : Int) := by omega
        have hk1i : (1 : Int) ≤ (k : Int) := by omega
        have hw1 : IntKind.i64.wrap ((k : Int) - 1) = (k : Int) - 1 := IntWalk.i64_in _ (by have h1 := HS.out.le; have h2 := HS.out.cap; unfold maxLen at h2; omega)
        have hw2 : IntKind.i64.wrap (z + 2) = z + 2 := IntWalk.i64_in _ (by omega)
        have hb1 : (0 : Int) ≤ (k : Int) - 1 := by omega
        have hb2 : (k : Int) - 1 < (l.length : Int) := by omega
        have hb3 : ((k : Int) - 1).toNat = k - 1 := by omega
        have hno : ¬ lo < z + 2 := by omega
        clear hgap hprev hpb hz hg
        refine wp_region_held_drew (S := fun w' => (w'.cell? ⟨C, 0, none⟩ = some (.int .i64 lo) ∧ w'.cell? ⟨C, 1, none⟩ = some (.int .i64 hi)) ∧ w'.cell? ⟨b, off + (k - 1) * 2 + 1, none⟩ = some (.int .i64 z)) (by kernel_rfl) ⟨⟨y0, y1⟩, p0⟩ (fun hHeld => ?_)
        refine take_on (i := 0) (v := ?_) rfl (by kernel_rfl) (by kernel_rfl) (by kernel_rfl) (fun _ _ _ h => h) (by rfl) (by assumption) ?_ ?_
        rotate_left
        · ((intro w hSw; (try dsimp only at hSw); go_simp <;> with_reducible rfl); done)
        try simp only [Act.put, List.setIfInBounds_toArray, List.set_cons_zero, List.set_cons_succ]
        refine branch_one (i := 1) rfl (by kernel_rfl) (by rfl) (fun K hK => ?_)
        go_simp
        go_at_call 101
        refine Calls.mono (RI.out _) ?_
        rintro e w3 ⟨rfl, hk3⟩
        have K3 := Lib.hid (((Keeps.refl [] Y).drew).trans hk3)
        clear hk3
        refine hK.out _ _ (⟨⟨K3.out.cell y0 (by simp), K3.out.cell y1 (by simp)⟩, K3.out.cell p0 (by simp)⟩) (fun hHeld => ?_)
        clear hK K
        try simp only [Act.put, List.setIfInBounds_toArray, List.set_cons_zero, List.set_cons_succ]
        refine take_on (i := 2) (v := ?_) rfl (by kernel_rfl) (by kernel_rfl) (by kernel_rfl) (fun _ _ _ h => h) (by rfl) (by assumption) ?_ ?_
        rotate_left
        · ((intro w hSw; (try dsimp only at hSw); go_simp <;> with_reducible rfl); done)
        try simp only [Act.put, List.setIfInBounds_toArray, List.set_cons_zero, List.set_cons_succ]
        refine take_on (i := 3) (v := ?_) rfl (by kernel_rfl) (by kernel_rfl) (by kernel_rfl) (fun _ _ _ h => h) (by rfl) (by assumption) ?_ ?_
        rotate_left
        · ((intro w hSw; (try dsimp only at hSw); go_simp <;> with_reducible rfl); done)
        try simp only [Act.put, List.setIfInBounds_toArray, List.set_cons_zero, List.set_cons_succ]
        refine take_on (i := 4) (v := ?_) rfl (by kernel_rfl) (by kernel_rfl) (by kernel_rfl) (fun _ _ _ h => h) (by rfl) (by assumption) ?_ ?_
        rotate_left
        · ((intro w hSw; (try dsimp only at hSw); go_simp <;> with_reducible rfl); done)
        try simp only [Act.put, List.setIfInBounds_toArray, List.set_cons_zero, List.set_cons_succ]
        refine take_on (i := 5) (v := ?_) rfl (by kernel_rfl) (by kernel_rfl) (by kernel_rfl) (fun _ _ _ h => h) (by rfl) (by assumption) ?_ ?_
        rotate_left
        · ((intro w hSw; (try dsimp only at hSw); go_simp <;> with_reducible rfl); done)
        try simp only [Act.put, List.setIfInBounds_toArray, List.set_cons_zero, List.set_cons_succ]
        refine take_on (i := 6) (v := ?_) rfl (by kernel_rfl) (by kernel_rfl) (by kernel_rfl) (fun _ _ _ h => h) (by rfl) (by assumption) ?_ ?_
        rotate_left
        · ((intro w hSw; (try dsimp only at hSw); go_simp <;> with_reducible rfl); done)
        try simp only [Act.put, List.setIfInBounds_toArray, List.set_cons_zero, List.set_cons_succ]
        refine take_on (i := 7) (v := ?_) rfl (by kernel_rfl) (by kernel_rfl) (by kernel_rfl) (fun _ _ _ h => h) (by rfl) (by assumption) ?_ ?_
        rotate_left
        · ((intro w hSw; (try dsimp only at hSw); go_simp <;> with_reducible rfl); done)
        try simp only [Act.put, List.setIfInBounds_toArray, List.set_cons_zero, List.set_cons_succ]
        refine take_on (i := 8) (v := ?_) rfl (by kernel_rfl) (by kernel_rfl) (by kernel_rfl) (fun _ _ _ h => h) (by rfl) (by assumption) ?_ ?_
        rotate_left
        · ((intro w hSw; (try dsimp only at hSw); go_simp <;> with_reducible rfl); done)
        try simp only [Act.put, List.setIfInBounds_toArray, List.set_cons_zero, List.set_cons_succ]
        refine take_on (i := 9) (v := ?_) rfl (by kernel_rfl) (by kernel_rfl) (by kernel_rfl) (fun _ _ _ h => h) (by rfl) (by assumption) ?_ ?_
        rotate_left
        · ((intro w hSw; (try dsimp only at hSw); go_simp <;> with_reducible rfl); done)
        try simp only [Act.put, List.setIfInBounds_toArray, List.set_cons_zero, List.set_cons_succ]
        refine take_on (i := 10) (v := ?_) rfl (by kernel_rfl) (by kernel_rfl) (by kernel_rfl) (fun _ _ _ h => h) (by rfl) (by assumption) ?_ ?_
        rotate_left
        · ((intro w hSw; (try dsimp only at hSw); go_simp <;> with_reducible rfl); done)
        try simp only [Act.put, List.setIfInBounds_toArray, List.set_cons_zero, List.set_cons_succ]
        refine take_on (i := 11) (v := ?_) rfl (by kernel_rfl) (by kernel_rfl) (by kernel_rfl) (fun _ _ _ h => h) (by rfl) (by assumption) ?_ ?_
        rotate_left
        · ((intro w hSw; (try dsimp only at hSw); go_simp <;> with_reducible rfl); done)
        try simp only [Act.put, List.setIfInBounds_toArray, List.set_cons_zero, List.set_cons_succ]
        refine take_on (i := 12) (v := ?_) rfl (by kernel_rfl) (by kernel_rfl) (by kernel_rfl) (fun _ _ _ h => h) (by rfl) (by assumption) ?_ ?_
        rotate_left
        · ((intro w hSw; (try dsimp only at hSw); go_simp <;> with_reducible rfl); done)
        try simp only [Act.put, List.setIfInBounds_toArray, List.set_cons_zero, List.set_cons_succ]
        refine take_on (i := 13) (v := ?_) rfl (by kernel_rfl) (by kernel_rfl) (by kernel_rfl) (fun _ _ _ h => h) (by rfl) (by assumption) ?_ ?_
        rotate_left
        · ((intro w hSw; (try dsimp only at hSw); go_simp <;> with_reducible rfl); done)
        try simp only [Act.put, List.setIfInBounds_toArray, List.set_cons_zero, List.set_cons_succ]
        refine take_on (i := 14) (v := ?_) rfl (by kernel_rfl) (by kernel_rfl) (by kernel_rfl) (fun _ _ _ h => h) (by rfl) (by assumption) ?_ ?_
        rotate_left
        · ((intro w hSw; (try dsimp only at hSw); go_simp <;> with_reducible rfl); done)
        try simp only [Act.put, List.setIfInBounds_toArray, List.set_cons_zero, List.set_cons_succ]
        refine take_on (i := 15) (v := ?_) rfl (by kernel_rfl) (by kernel_rfl) (by kernel_rfl) (fun _ _ _ h => h) (by rfl) (by assumption) ?_ ?_
        rotate_left
        · ((intro w hSw; (try dsimp only at hSw); go_simp <;> with_reducible rfl); done)
        try simp only [Act.put, List.setIfInBounds_toArray, List.set_cons_zero, List.set_cons_succ]
        refine take_on (i := 16) (v := ?_) rfl (by kernel_rfl) (by kernel_rfl) (by kernel_rfl) (fun _ _ _ h => h) (by rfl) (by assumption) ?_ ?_
        rotate_left
        · ((intro w hSw; (try dsimp only at hSw); go_simp <;> with_reducible rfl); done)
        try simp only [Act.put, List.setIfInBounds_toArray, List.set_cons_zero, List.set_cons_succ]
        refine take_on (i := 17) (v := ?_) rfl (by kernel_rfl) (by kernel_rfl) (by kernel_rfl) (fun _ _ _ h => h) (by rfl) (by assumption) ?_ ?_
        rotate_left
        · ((intro w hSw; (try dsimp only at hSw); go_simp <;> with_reducible rfl); done)
        try simp only [Act.put, List.setIfInBounds_toArray, List.set_cons_zero, List.set_cons_succ]
        refine take_on (i := 18) (v := ?_) rfl (by kernel_rfl) (by kernel_rfl) (by kernel_rfl) (fun _ _ _ h => h) (by rfl) (by assumption) ?_ ?_
        rotate_left
        · ((intro w hSw; (try dsimp only at hSw); go_simp <;> with_reducible rfl); done)
        try simp only [Act.put, List.setIfInBounds_toArray, List.set_cons_zero, List.set_cons_succ]
        refine wpAnyH_done (by kernel_rfl) ?_ _
        have KR := Lib.hid ((HK.out.trans KY.out).trans K3.out)
        clear y0 y1 hHeld p0
        go_wp2
        go_roundw
        case rel => exact ⟨k + 1, by omega, by go_num, KR.out⟩
        case measure => simp [intOf]; omega
    · obtain rfl : k = l.length := by omega
      clear hkp
      go_wp2
      go_ret
      exact ⟨rfl, HK.out⟩

end Go.Proofs.YtgdmkddegcecaaaGreat
