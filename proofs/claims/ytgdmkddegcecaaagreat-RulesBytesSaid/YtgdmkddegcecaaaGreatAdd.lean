/- sets.add. Conditions: the spans lie in a slice of their own and are small. -/
import Derived.Test.YtgdmkddegcecaaaGreatSets1
namespace Go.Proofs.YtgdmkddegcecaaaGreat
open Go.RowKit

theorem SliceAt.setN {w : World} {e size g n c : Nat} {xs : List Value} (h : SliceAt w e size (some g) n c xs) (i : Nat) (v : Value) : SliceAt (w.setCell ⟨g, i, none⟩ v) e size (some g) n c (xs.set i v) := by
  obtain ⟨h1, cur, h2, h3, h4, h5, h6⟩ := h
  refine ⟨by simpa using h1, _, heap_setCell_same w g i _ e v h2, h3, h4, by simpa using h5, ?_⟩
  subst h6
  simp [List.take_set]

def addP (l : List (Int × Int)) (s : Int × Int) : List (Int × Int) :=
  match l.getLast? with
  | none => [s]
  | some z => if s.1 ≤ z.2 + 1 then l.dropLast ++ [(z.1, max z.2 s.2)] else l ++ [s]
theorem addP_nil (s : Int × Int) : addP [] s = [s] := rfl
theorem addP_in (l : List (Int × Int)) (z s : Int × Int) (h : s.1 ≤ z.2 + 1) : addP (l ++ [z]) s = l ++ [(z.1, max z.2 s.2)] := by
  simp [addP, h]
theorem addP_out (l : List (Int × Int)) (z s : Int × Int) (h : ¬ s.1 ≤ z.2 + 1) : addP (l ++ [z]) s = (l ++ [z]) ++ [s] := by
  simp [addP, h]
theorem flatP_set (l : List (Int × Int)) (z : Int × Int) (M : Int) : (flatP (l ++ [z])).set (l.length * 2 + 1) (.int .i64 M) = flatP (l ++ [(z.1, M)]) := by
  rw [flatP_append, flatP_append, ← flatP_length]
  rw [List.set_append_right _ _ (by omega)]
  simp [flatP]

/-- What add leaves. -/
def AddPost (w : World) (a : Option Nat) (r : List (Int × Int)) (e : Ending) (w' : World) : Prop :=
  ∃ g c', e = .returned (.slice (some ⟨g, 0, none⟩) r.length c') ∧ SliceAt w' 80 2 (some g) r.length c' (flatP r) ∧ Keeps a.toList w w' ∧ (a = some g ∨ w.heap.size ≤ g)

set_option maxRecDepth 100000 in
set_option maxHeartbeats 4000000 in
theorem add_any (a : Option Nat) (c : Nat) (l : List (Int × Int)) (lo hi : Int) (w : World) (hs : SliceAt w 80 2 a l.length c (flatP l)) (hb : ∀ z ∈ l, -10 ≤ z.2 ∧ z.2 ≤ 10000000) (hl : l.length ≤ 100000) :
    Calls Tryz.prog 104 #[sv a l.length c, .agg #[.int .i64 lo, .int .i64 hi]] w (AddPost w a (addP l (lo, hi))) := by
  obtain ⟨i0, hi0, hz0, hz1, hz2⟩ := info_parts infoSpan
  have Hi := Lib.hid hi0
  have Hz0 := Lib.hid hz0
  have Hz1 := Lib.hid hz1
  have Hz2 := Lib.hid hz2
  clear hi0 hz0 hz1 hz2
  obtain ⟨C, hC⟩ : ∃ C, C = w.heap.size := ⟨_, rfl⟩
  obtain ⟨Y, hY⟩ : ∃ Y, Y = w.alloc (.cells #[.int .i64 lo, .int .i64 hi] 80) := ⟨_, rfl⟩
  have hkY : Keeps [] w Y := by rw [hY]; exact Keeps.a1 _ _
  have hYH : Y.heap[C]? = some (.cells #[.int .i64 lo, .int .i64 hi] 80 (0, 0)) := by rw [hY, hC]; exact heap_alloc_new w _
  have y0 : Y.cell? ⟨C, 0, none⟩ = some (.int .i64 lo) := by simp [World.cell?, hYH]
  have y1 : Y.cell? ⟨C, 1, none⟩ = some (.int .i64 hi) := by simp [World.cell?, hYH]
  have HY := Lib.hid hY
  have HC := Lib.hid hC
  have KY := Lib.hid hkY
  have HS := Lib.hid (hs.keep hkY (by simp))
  have HGW := Lib.hid (fun (g : Nat) (h : a = some g) => (by subst h; exact hs.lt : g < w.heap.size))
  clear hY hC hkY hYH hs
  obtain rfl | ⟨ll, z, hlz⟩ := List.eq_nil_or_concat l
  · rw [addP_nil]
    simp only [sv, List.length_nil] at HS ⊢
    go_enter Tryz.func104, Tryz.ntmps104
    go_upto_region 2 with fail
    rw [← HY.out, ← HC.out]
    refine wp_region_held_drew (S := fun w' => w'.cell? ⟨C, 0, none⟩ = some (.int .i64 lo)) (by kernel_rfl) y0 (fun hHeld => ?_)
    refine take_on (i := 0) (v := ?_) rfl (by kernel_rfl) (by kernel_rfl) (by kernel_rfl) (fun _ _ _ h => h) (by rfl) (by assumption) ?_ ?_
    rotate_left
    · ((intro w hSw; (try dsimp only at hSw); go_simp <;> with_reducible rfl); done)
    try simp only [Act.put, List.setIfInBounds_toArray, List.set_cons_zero, List.set_cons_succ]
    refine take_on (i := 1) (v := ?_) rfl (by kernel_rfl) (by kernel_rfl) (by kernel_rfl) (fun _ _ _ h => h) (by rfl) (by assumption) ?_ ?_
    rotate_left
    · ((intro w hSw; (try dsimp only at hSw); go_simp <;> with_reducible rfl); done)
    try simp only [Act.put, List.setIfInBounds_toArray, List.set_cons_zero, List.set_cons_succ]
    refine take_on (i := 2) (v := ?_) rfl (by kernel_rfl) (by kernel_rfl) (by kernel_rfl) (fun _ _ _ h => h) (by rfl) (by assumption) ?_ ?_
    rotate_left
    · ((intro w hSw; (try dsimp only at hSw); go_simp <;> with_reducible rfl); done)
    try simp only [Act.put, List.setIfInBounds_toArray, List.set_cons_zero, List.set_cons_succ]
    refine take_off (i := 3) rfl (by kernel_rfl) (by kernel_rfl) (by kernel_rfl) (fun _ _ _ h => h) (by rfl) (by assumption) ?_
    try simp only [Act.put, List.setIfInBounds_toArray, List.set_cons_zero, List.set_cons_succ]
    refine take_off (i := 4) rfl (by kernel_rfl) (by kernel_rfl) (by kernel_rfl) (fun _ _ _ h => h) (by rfl) (by assumption) ?_
    try simp only [Act.put, List.setIfInBounds_toArray, List.set_cons_zero, List.set_cons_succ]
    refine take_off (i := 5) rfl (by kernel_rfl) (by kernel_rfl) (by kernel_rfl) (fun _ _ _ h => h) (by rfl) (by assumption) ?_
    try simp only [Act.put, List.setIfInBounds_toArray, List.set_cons_zero, List.set_cons_succ]
    refine take_off (i := 6) rfl (by kernel_rfl) (by kernel_rfl) (by kernel_rfl) (fun _ _ _ h => h) (by rfl) (by assumption) ?_
    try simp only [Act.put, List.setIfInBounds_toArray, List.set_cons_zero, List.set_cons_succ]
    refine take_off (i := 7) rfl (by kernel_rfl) (by kernel_rfl) (by kernel_rfl) (fun _ _ _ h => h) (by rfl) (by assumption) ?_
    try simp only [Act.put, List.setIfInBounds_toArray, List.set_cons_zero, List.set_cons_succ]
    refine take_off (i := 8) rfl (by kernel_rfl) (by kernel_rfl) (by kernel_rfl) (fun _ _ _ h => h) (by rfl) (by assumption) ?_
    try simp only [Act.put, List.setIfInBounds_toArray, List.set_cons_zero, List.set_cons_succ]
    refine take_off (i := 9) rfl (by kernel_rfl) (by kernel_rfl) (by kernel_rfl) (fun _ _ _ h => h) (by rfl) (by assumption) ?_
    try simp only [Act.put, List.setIfInBounds_toArray, List.set_cons_zero, List.set_cons_succ]
    refine take_off (i := 10) rfl (by kernel_rfl) (by kernel_rfl) (by kernel_rfl) (fun _ _ _ h => h) (by rfl) (by assumption) ?_
    try simp only [Act.put, List.setIfInBounds_toArray, List.set_cons_zero, List.set_cons_succ]
    refine take_off (i := 11) rfl (by kernel_rfl) (by kernel_rfl) (by kernel_rfl) (fun _ _ _ h => h) (by rfl) (by assumption) ?_
    try simp only [Act.put, List.setIfInBounds_toArray, List.set_cons_zero, List.set_cons_succ]
    refine take_off (i := 12) rfl (by kernel_rfl) (by kernel_rfl) (by kernel_rfl) (fun _ _ _ h => h) (by rfl) (by assumption) ?_
    try simp only [Act.put, List.setIfInBounds_toArray, List.set_cons_zero, List.set_cons_succ]
    refine take_on (i := 13) (v := ?_) rfl (by kernel_rfl) (by kernel_rfl) (by kernel_rfl) (fun _ _ _ h => h) (by rfl) (by assumption) ?_ ?_
    rotate_left
    · ((intro w hSw; (try dsimp only at hSw); go_simp <;> with_reducible rfl); done)
    try simp only [Act.put, List.setIfInBounds_toArray, List.set_cons_zero, List.set_cons_succ]
    refine wpAnyH_done (by kernel_rfl) ?_ _
    go_wp2_with (at_builtin; refine wpList_append_sl rfl (.tmp 37) (.tmp 39) 61 rfl 80 i0 _ 2 16 Tryz.underlying61 Hi.out Hz0.out Hz1.out Hz2.out rfl (by decide) a 0 c [] rfl ((HS.out.drewN 1).alloc _) ⟨Y.heap.size, 0, none⟩ 1 1 [.int .i64 lo, .int .i64 hi] rfl rfl ?hnews ?hone (by decide) (by omega) (by omega) ?hk)
    case hnews => exact news_row' _ _ _ _ rfl
    case hone => intro u hu; simp at hu; rcases hu with rfl | rfl <;> rfl
    case hk =>
      intro g c2 w2 hsl hk2 hg
      have HSL := Lib.hid hsl
      have K2 := Lib.hid ((((KY.out.drew).alloc _).mono (by simp)).trans hk2)
      have HG := Lib.hid hg
      clear hsl hk2 hg y0 y1 hHeld
      go_wp2
      go_ret
      exact ⟨g, c2, rfl, HSL.out, K2.out, by
        rcases HG.out with h | h
        · exact .inl h
        · exact .inr (by have h : Y.heap.size + 1 ≤ g := h; have := KY.out.size; omega)⟩
  · rw [List.concat_eq_append] at hlz
    subst hlz
    cases a with
    | none =>
      have := HS.out.2.1
      simp at this
    | some g =>
      obtain ⟨p, q⟩ := z
      obtain ⟨n, hn⟩ : ∃ n, n = (ll ++ [(p, q)]).length := ⟨_, rfl⟩
      have hn1 : n = ll.length + 1 := by rw [hn]; simp
      have hq := hb (p, q) (by simp)
      simp only at hq
      have hgl := HS.out.lt
      have hCY : C < Y.heap.size := World.block_lt_of_cell? Y _ y0
      have hgC : g ≠ C := fun h => by have := HGW.out g rfl; have := HC.out; omega
      have hlast := HS.out.cell ((n - 1) * 2 + 1) (by rw [flatP_length, ← hn]; omega)
      have hv := (flatP_get (ll ++ [(p, q)]) (n - 1) (by rw [← hn]; omega)).2
      have hx : Y.cell? ⟨g, (n - 1) * 2 + 1, none⟩ = some (.int .i64 q) := by
        rw [hlast]
        rw [List.getElem?_eq_getElem (by rw [flatP_length, ← hn]; omega)] at hv
        rw [hv]
        simp [hn1]
      have hff := HS.out.fz ((n - 1) * 2 + 1)
      rw [← hn] at HS ⊢
      have hn0 : (0 : Int) < (n : Int) := by omega
      have hn0n : 0 < n := by omega
      have hw1 : IntKind.i64.wrap ((n : Int) - 1) = (n : Int) - 1 := IntWalk.i64_in _ (by omega)
      have hw2 : IntKind.i64.wrap (q + 1) = q + 1 := IntWalk.i64_in _ (by omega)
      have hb1 : (1 : Int) ≤ (n : Int) := by omega
      have hb2 : (n : Int) - 1 < (n : Int) := by omega
      have hb3 : ((n : Int) - 1).toNat = n - 1 := by omega
      have HN := Lib.hid hn
      have HN1 := Lib.hid hn1
      have hnle : n ≤ 100000 := by rw [hn]; exact hl
      clear hlast hv hq hb hn hn1 hl
      simp only [sv, Option.map_some]
      by_cases hle : lo ≤ q + 1
      · have hR := addP_in ll (p, q) (lo, hi) hle
        have HR := Lib.hid hR
        clear hR
        go_enter Tryz.func104, Tryz.ntmps104
        go_upto_region 2 with fail
        rw [← HY.out, ← HC.out]
        refine wp_region_held_drew (S := fun w' => w'.cell? ⟨C, 0, none⟩ = some (.int .i64 lo) ∧ w'.cell? ⟨g, (n - 1) * 2 + 1, none⟩ = some (.int .i64 q)) (by kernel_rfl) ⟨y0, hx⟩ (fun hHeld => ?_)
        refine take_on (i := 0) (v := ?_) rfl (by kernel_rfl) (by kernel_rfl) (by kernel_rfl) (fun _ _ _ h => h) (by rfl) (by assumption) ?_ ?_
        rotate_left
        · ((intro w hSw; (try dsimp only at hSw); go_simp <;> with_reducible rfl); done)
        try simp only [Act.put, List.setIfInBounds_toArray, List.set_cons_zero, List.set_cons_succ]
        refine take_on (i := 1) (v := ?_) rfl (by kernel_rfl) (by kernel_rfl) (by kernel_rfl) (fun _ _ _ h => h) (by rfl) (by assumption) ?_ ?_
        rotate_left
        · ((intro w hSw; (try dsimp only at hSw); go_simp <;> with_reducible rfl); done)
        try simp only [Act.put, List.setIfInBounds_toArray, List.set_cons_zero, List.set_cons_succ]
        refine take_on (i := 2) (v := ?_) rfl (by kernel_rfl) (by kernel_rfl) (by kernel_rfl) (fun _ _ _ h => h) (by rfl) (by assumption) ?_ ?_
        rotate_left
        · ((intro w hSw; (try dsimp only at hSw); go_simp <;> with_reducible rfl); done)
        try simp only [Act.put, List.setIfInBounds_toArray, List.set_cons_zero, List.set_cons_succ]
        refine take_on (i := 3) (v := ?_) rfl (by kernel_rfl) (by kernel_rfl) (by kernel_rfl) (fun _ _ _ h => h) (by rfl) (by assumption) ?_ ?_
        rotate_left
        · ((intro w hSw; (try dsimp only at hSw); go_simp <;> with_reducible rfl); done)
        try simp only [Act.put, List.setIfInBounds_toArray, List.set_cons_zero, List.set_cons_succ]
        refine take_on (i := 4) (v := ?_) rfl (by kernel_rfl) (by kernel_rfl) (by kernel_rfl) (fun _ _ _ h => h) (by rfl) (by assumption) ?_ ?_
        rotate_left
        · ((intro w hSw; (try dsimp only at hSw); go_simp <;> with_reducible rfl); done)
        try simp only [Act.put, List.setIfInBounds_toArray, List.set_cons_zero, List.set_cons_succ]
        refine take_on (i := 5) (v := ?_) rfl (by kernel_rfl) (by kernel_rfl) (by kernel_rfl) (fun _ _ _ h => h) (by rfl) (by assumption) ?_ ?_
        rotate_left
        · ((intro w hSw; (try dsimp only at hSw); go_simp <;> with_reducible rfl); done)
        try simp only [Act.put, List.setIfInBounds_toArray, List.set_cons_zero, List.set_cons_succ]
        refine take_on (i := 6) (v := ?_) rfl (by kernel_rfl) (by kernel_rfl) (by kernel_rfl) (fun _ _ _ h => h) (by rfl) (by assumption) ?_ ?_
        rotate_left
        · ((intro w hSw; (try dsimp only at hSw); go_simp <;> with_reducible rfl); done)
        try simp only [Act.put, List.setIfInBounds_toArray, List.set_cons_zero, List.set_cons_succ]
        refine take_on (i := 7) (v := ?_) rfl (by kernel_rfl) (by kernel_rfl) (by kernel_rfl) (fun _ _ _ h => h) (by rfl) (by assumption) ?_ ?_
        rotate_left
        · ((intro w hSw; (try dsimp only at hSw); go_simp <;> with_reducible rfl); done)
        try simp only [Act.put, List.setIfInBounds_toArray, List.set_cons_zero, List.set_cons_succ]
        refine take_on (i := 8) (v := ?_) rfl (by kernel_rfl) (by kernel_rfl) (by kernel_rfl) (fun _ _ _ h => h) (by rfl) (by assumption) ?_ ?_
        rotate_left
        · ((intro w hSw; (try dsimp only at hSw); go_simp <;> with_reducible rfl); done)
        try simp only [Act.put, List.setIfInBounds_toArray, List.set_cons_zero, List.set_cons_succ]
        refine take_on (i := 9) (v := ?_) rfl (by kernel_rfl) (by kernel_rfl) (by kernel_rfl) (fun _ _ _ h => h) (by rfl) (by assumption) ?_ ?_
        rotate_left
        · ((intro w hSw; (try dsimp only at hSw); go_simp <;> with_reducible rfl); done)
        try simp only [Act.put, List.setIfInBounds_toArray, List.set_cons_zero, List.set_cons_succ]
        refine take_on (i := 10) (v := ?_) rfl (by kernel_rfl) (by kernel_rfl) (by kernel_rfl) (fun _ _ _ h => h) (by rfl) (by assumption) ?_ ?_
        rotate_left
        · ((intro w hSw; (try dsimp only at hSw); go_simp <;> with_reducible rfl); done)
        try simp only [Act.put, List.setIfInBounds_toArray, List.set_cons_zero, List.set_cons_succ]
        refine take_on (i := 11) (v := ?_) rfl (by kernel_rfl) (by kernel_rfl) (by kernel_rfl) (fun _ _ _ h => h) (by rfl) (by assumption) ?_ ?_
        rotate_left
        · ((intro w hSw; (try dsimp only at hSw); go_simp <;> with_reducible rfl); done)
        try simp only [Act.put, List.setIfInBounds_toArray, List.set_cons_zero, List.set_cons_succ]
        refine take_on (i := 12) (v := ?_) rfl (by kernel_rfl) (by kernel_rfl) (by kernel_rfl) (fun _ _ _ h => h) (by rfl) (by assumption) ?_ ?_
        rotate_left
        · ((intro w hSw; (try dsimp only at hSw); go_simp <;> with_reducible rfl); done)
        try simp only [Act.put, List.setIfInBounds_toArray, List.set_cons_zero, List.set_cons_succ]
        refine take_on (i := 13) (v := ?_) rfl (by kernel_rfl) (by kernel_rfl) (by kernel_rfl) (fun _ _ _ h => h) (by rfl) (by assumption) ?_ ?_
        rotate_left
        · ((intro w hSw; (try dsimp only at hSw); go_simp <;> with_reducible rfl); done)
        try simp only [Act.put, List.setIfInBounds_toArray, List.set_cons_zero, List.set_cons_succ]
        refine wpAnyH_done (by kernel_rfl) ?_ _
        clear hHeld
        go_upto_region 3 with fail
        refine wp_region_held_drew (S := fun w' => w'.cell? ⟨C, 1, none⟩ = some (.int .i64 hi)) (by kernel_rfl) y1 (fun hHeld => ?_)
        refine take_on (i := 0) (v := ?_) rfl (by kernel_rfl) (by kernel_rfl) (by kernel_rfl) (fun _ _ _ h => h) (by rfl) (by assumption) ?_ ?_
        rotate_left
        · ((intro w hSw; (try dsimp only at hSw); go_simp <;> with_reducible rfl); done)
        try simp only [Act.put, List.setIfInBounds_toArray, List.set_cons_zero, List.set_cons_succ]
        refine take_on (i := 1) (v := ?_) rfl (by kernel_rfl) (by kernel_rfl) (by kernel_rfl) (fun _ _ _ h => h) (by rfl) (by assumption) ?_ ?_
        rotate_left
        · ((intro w hSw; (try dsimp only at hSw); go_simp <;> with_reducible rfl); done)
        try simp only [Act.put, List.setIfInBounds_toArray, List.set_cons_zero, List.set_cons_succ]
        refine take_on (i := 2) (v := ?_) rfl (by kernel_rfl) (by kernel_rfl) (by kernel_rfl) (fun _ _ _ h => h) (by rfl) (by assumption) ?_ ?_
        rotate_left
        · ((intro w hSw; (try dsimp only at hSw); go_simp <;> with_reducible rfl); done)
        try simp only [Act.put, List.setIfInBounds_toArray, List.set_cons_zero, List.set_cons_succ]
        refine take_on (i := 3) (v := ?_) rfl (by kernel_rfl) (by kernel_rfl) (by kernel_rfl) (fun _ _ _ h => h) (by rfl) (by assumption) ?_ ?_
        rotate_left
        · ((intro w hSw; (try dsimp only at hSw); go_simp <;> with_reducible rfl); done)
        try simp only [Act.put, List.setIfInBounds_toArray, List.set_cons_zero, List.set_cons_succ]
        refine take_on (i := 4) (v := ?_) rfl (by kernel_rfl) (by kernel_rfl) (by kernel_rfl) (fun _ _ _ h => h) (by rfl) (by assumption) ?_ ?_
        rotate_left
        · ((intro w hSw; (try dsimp only at hSw); go_simp <;> with_reducible rfl); done)
        try simp only [Act.put, List.setIfInBounds_toArray, List.set_cons_zero, List.set_cons_succ]
        refine take_on (i := 5) (v := ?_) rfl (by kernel_rfl) (by kernel_rfl) (by kernel_rfl) (fun _ _ _ h => h) (by rfl) (by assumption) ?_ ?_
        rotate_left
        · ((intro w hSw; (try dsimp only at hSw); go_simp <;> with_reducible rfl); done)
        try simp only [Act.put, List.setIfInBounds_toArray, List.set_cons_zero, List.set_cons_succ]
        refine take_on (i := 6) (v := ?_) rfl (by kernel_rfl) (by kernel_rfl) (by kernel_rfl) (fun _ _ _ h => h) (by rfl) (by assumption) ?_ ?_
        rotate_left
        · ((intro w hSw; (try dsimp only at hSw); go_simp <;> with_reducible rfl); done)
        try simp only [Act.put, List.setIfInBounds_toArray, List.set_cons_zero, List.set_cons_succ]
        refine take_on (i := 7) (v := ?_) rfl (by kernel_rfl) (by kernel_rfl) (by kernel_rfl) (fun _ _ _ h => h) (by rfl) (by assumption) ?_ ?_
        rotate_left
        · ((intro w hSw; (try dsimp only at hSw); go_simp <;> with_reducible rfl); done)
        try simp only [Act.put, List.setIfInBounds_toArray, List.set_cons_zero, List.set_cons_succ]
        refine take_on (i := 9) (v := ?_) rfl (by kernel_rfl) (by kernel_rfl) (by kernel_rfl) (fun _ _ _ h => h) (by rfl) (by assumption) ?_ ?_
        rotate_left
        · ((intro w hSw; (try dsimp only at hSw); go_simp <;> with_reducible rfl); done)
        try simp only [Act.put, List.setIfInBounds_toArray, List.set_cons_zero, List.set_cons_succ]
        refine take_on (i := 10) (v := ?_) rfl (by kernel_rfl) (by kernel_rfl) (by kernel_rfl) (fun _ _ _ h => h) (by rfl) (by assumption) ?_ ?_
        rotate_left
        · ((intro w hSw; (try dsimp only at hSw); go_simp <;> with_reducible rfl); done)
        try simp only [Act.put, List.setIfInBounds_toArray, List.set_cons_zero, List.set_cons_succ]
        refine branch_one (i := 8) rfl (by kernel_rfl) (by rfl) (fun K hK => ?_)
        go_simp
        refine hK.out _ _ (y1) (fun hHeld => ?_)
        clear hK K
        try simp only [Act.put, List.setIfInBounds_toArray, List.set_cons_zero, List.set_cons_succ]
        by_cases hm : q < hi
        · have hm2 : max q hi = hi := by omega
          refine take_on (i := 11) (v := ?_) rfl (by kernel_rfl) (by kernel_rfl) (by kernel_rfl) (fun _ _ _ h => h) (by rfl) (by assumption) ?_ ?_
          rotate_left
          · ((intro w hSw; (try dsimp only at hSw); go_simp <;> with_reducible rfl); done)
          try simp only [Act.put, List.setIfInBounds_toArray, List.set_cons_zero, List.set_cons_succ]
          refine take_on (i := 12) (v := ?_) rfl (by kernel_rfl) (by kernel_rfl) (by kernel_rfl) (fun _ _ _ h => h) (by rfl) (by assumption) ?_ ?_
          rotate_left
          · ((intro w hSw; (try dsimp only at hSw); go_simp <;> with_reducible rfl); done)
          try simp only [Act.put, List.setIfInBounds_toArray, List.set_cons_zero, List.set_cons_succ]
          refine take_on (i := 13) (v := ?_) rfl (by kernel_rfl) (by kernel_rfl) (by kernel_rfl) (fun _ _ _ h => h) (by rfl) (by assumption) ?_ ?_
          rotate_left
          · ((intro w hSw; (try dsimp only at hSw); go_simp <;> with_reducible rfl); done)
          try simp only [Act.put, List.setIfInBounds_toArray, List.set_cons_zero, List.set_cons_succ]
          refine branch_one (i := 14) rfl (by kernel_rfl) (by rfl) (fun K hK => ?_)
          go_simp
          refine hK.out _ _ (((((Keeps.refl [g] Y).setCell (p := ⟨g, (n - 1) * 2 + 1, none⟩) (.inl (by simp)) (.int .i64 hi)).drew).drew).cell y1 (by simp; omega)) (fun hHeld => ?_)
          clear hK K
          try simp only [Act.put, List.setIfInBounds_toArray, List.set_cons_zero, List.set_cons_succ]
          refine wpAnyH_done (by kernel_rfl) ?_ _
          go_wp2
          go_ret
          refine ⟨g, c, ?_, ?_, ?_, .inl rfl⟩
          · rw [HR.out]
            show Ending.returned (.slice (some ⟨g, 0, none⟩) n c) = _
            rw [HN.out]
            simp
          · rw [HR.out]
            have h := ((HS.out.setN ((n - 1) * 2 + 1) (.int .i64 hi)).drewN 1).drewN 1
            rw [show n - 1 = ll.length by have := HN1.out; omega, flatP_set] at h
            rw [show (ll ++ [((p, q).1, max (p, q).2 (lo, hi).2)]).length = n by rw [HN.out]; simp]
            rw [show max (p, q).2 (lo, hi).2 = hi by simp only; omega]
            rw [show n - 1 = ll.length by have := HN1.out; omega]
            exact h
          · exact (((KY.out.mono (by simp)).setCell (p := ⟨g, (n - 1) * 2 + 1, none⟩) (.inl (by simp)) _).drew).drew
        · have hm2 : max q hi = q := by omega
          refine take_on (i := 11) (v := ?_) rfl (by kernel_rfl) (by kernel_rfl) (by kernel_rfl) (fun _ _ _ h => h) (by rfl) (by assumption) ?_ ?_
          rotate_left
          · ((intro w hSw; (try dsimp only at hSw); go_simp <;> with_reducible rfl); done)
          try simp only [Act.put, List.setIfInBounds_toArray, List.set_cons_zero, List.set_cons_succ]
          refine take_on (i := 12) (v := ?_) rfl (by kernel_rfl) (by kernel_rfl) (by kernel_rfl) (fun _ _ _ h => h) (by rfl) (by assumption) ?_ ?_
          rotate_left
          · ((intro w hSw; (try dsimp only at hSw); go_simp <;> with_reducible rfl); done)
          try simp only [Act.put, List.setIfInBounds_toArray, List.set_cons_zero, List.set_cons_succ]
          refine take_on (i := 13) (v := ?_) rfl (by kernel_rfl) (by kernel_rfl) (by kernel_rfl) (fun _ _ _ h => h) (by rfl) (by assumption) ?_ ?_
          rotate_left
          · ((intro w hSw; (try dsimp only at hSw); go_simp <;> with_reducible rfl); done)
          try simp only [Act.put, List.setIfInBounds_toArray, List.set_cons_zero, List.set_cons_succ]
          refine branch_one (i := 14) rfl (by kernel_rfl) (by rfl) (fun K hK => ?_)
          go_simp
          refine hK.out _ _ (((((Keeps.refl [g] Y).setCell (p := ⟨g, (n - 1) * 2 + 1, none⟩) (.inl (by simp)) (.int .i64 q)).drew).drew).cell y1 (by simp; omega)) (fun hHeld => ?_)
          clear hK K
          try simp only [Act.put, List.setIfInBounds_toArray, List.set_cons_zero, List.set_cons_succ]
          refine wpAnyH_done (by kernel_rfl) ?_ _
          go_wp2
          go_ret
          refine ⟨g, c, ?_, ?_, ?_, .inl rfl⟩
          · rw [HR.out]
            show Ending.returned (.slice (some ⟨g, 0, none⟩) n c) = _
            rw [HN.out]
            simp
          · rw [HR.out]
            have h := ((HS.out.setN ((n - 1) * 2 + 1) (.int .i64 q)).drewN 1).drewN 1
            rw [show n - 1 = ll.length by have := HN1.out; omega, flatP_set] at h
            rw [show (ll ++ [((p, q).1, max (p, q).2 (lo, hi).2)]).length = n by rw [HN.out]; simp]
            rw [show max (p, q).2 (lo, hi).2 = q by simp only; omega]
            rw [show n - 1 = ll.length by have := HN1.out; omega]
            exact h
          · exact (((KY.out.mono (by simp)).setCell (p := ⟨g, (n - 1) * 2 + 1, none⟩) (.inl (by simp)) _).drew).drew
      · have hR := addP_out ll (p, q) (lo, hi) hle
        have HR := Lib.hid hR
        clear hR
        go_enter Tryz.func104, Tryz.ntmps104
        go_upto_region 2 with fail
        rw [← HY.out, ← HC.out]
        refine wp_region_held_drew (S := fun w' => w'.cell? ⟨C, 0, none⟩ = some (.int .i64 lo) ∧ w'.cell? ⟨g, (n - 1) * 2 + 1, none⟩ = some (.int .i64 q)) (by kernel_rfl) ⟨y0, hx⟩ (fun hHeld => ?_)
        refine take_on (i := 0) (v := ?_) rfl (by kernel_rfl) (by kernel_rfl) (by kernel_rfl) (fun _ _ _ h => h) (by rfl) (by assumption) ?_ ?_
        rotate_left
        · ((intro w hSw; (try dsimp only at hSw); go_simp <;> with_reducible rfl); done)
        try simp only [Act.put, List.setIfInBounds_toArray, List.set_cons_zero, List.set_cons_succ]
        refine take_on (i := 1) (v := ?_) rfl (by kernel_rfl) (by kernel_rfl) (by kernel_rfl) (fun _ _ _ h => h) (by rfl) (by assumption) ?_ ?_
        rotate_left
        · ((intro w hSw; (try dsimp only at hSw); go_simp <;> with_reducible rfl); done)
        try simp only [Act.put, List.setIfInBounds_toArray, List.set_cons_zero, List.set_cons_succ]
        refine take_on (i := 2) (v := ?_) rfl (by kernel_rfl) (by kernel_rfl) (by kernel_rfl) (fun _ _ _ h => h) (by rfl) (by assumption) ?_ ?_
        rotate_left
        · ((intro w hSw; (try dsimp only at hSw); go_simp <;> with_reducible rfl); done)
        try simp only [Act.put, List.setIfInBounds_toArray, List.set_cons_zero, List.set_cons_succ]
        refine take_on (i := 3) (v := ?_) rfl (by kernel_rfl) (by kernel_rfl) (by kernel_rfl) (fun _ _ _ h => h) (by rfl) (by assumption) ?_ ?_
        rotate_left
        · ((intro w hSw; (try dsimp only at hSw); go_simp <;> with_reducible rfl); done)
        try simp only [Act.put, List.setIfInBounds_toArray, List.set_cons_zero, List.set_cons_succ]
        refine take_on (i := 4) (v := ?_) rfl (by kernel_rfl) (by kernel_rfl) (by kernel_rfl) (fun _ _ _ h => h) (by rfl) (by assumption) ?_ ?_
        rotate_left
        · ((intro w hSw; (try dsimp only at hSw); go_simp <;> with_reducible rfl); done)
        try simp only [Act.put, List.setIfInBounds_toArray, List.set_cons_zero, List.set_cons_succ]
        refine take_on (i := 5) (v := ?_) rfl (by kernel_rfl) (by kernel_rfl) (by kernel_rfl) (fun _ _ _ h => h) (by rfl) (by assumption) ?_ ?_
        rotate_left
        · ((intro w hSw; (try dsimp only at hSw); go_simp <;> with_reducible rfl); done)
        try simp only [Act.put, List.setIfInBounds_toArray, List.set_cons_zero, List.set_cons_succ]
        refine take_on (i := 6) (v := ?_) rfl (by kernel_rfl) (by kernel_rfl) (by kernel_rfl) (fun _ _ _ h => h) (by rfl) (by assumption) ?_ ?_
        rotate_left
        · ((intro w hSw; (try dsimp only at hSw); go_simp <;> with_reducible rfl); done)
        try simp only [Act.put, List.setIfInBounds_toArray, List.set_cons_zero, List.set_cons_succ]
        refine take_on (i := 7) (v := ?_) rfl (by kernel_rfl) (by kernel_rfl) (by kernel_rfl) (fun _ _ _ h => h) (by rfl) (by assumption) ?_ ?_
        rotate_left
        · ((intro w hSw; (try dsimp only at hSw); go_simp <;> with_reducible rfl); done)
        try simp only [Act.put, List.setIfInBounds_toArray, List.set_cons_zero, List.set_cons_succ]
        refine take_on (i := 8) (v := ?_) rfl (by kernel_rfl) (by kernel_rfl) (by kernel_rfl) (fun _ _ _ h => h) (by rfl) (by assumption) ?_ ?_
        rotate_left
        · ((intro w hSw; (try dsimp only at hSw); go_simp <;> with_reducible rfl); done)
        try simp only [Act.put, List.setIfInBounds_toArray, List.set_cons_zero, List.set_cons_succ]
        refine take_on (i := 9) (v := ?_) rfl (by kernel_rfl) (by kernel_rfl) (by kernel_rfl) (fun _ _ _ h => h) (by rfl) (by assumption) ?_ ?_
        rotate_left
        · ((intro w hSw; (try dsimp only at hSw); go_simp <;> with_reducible rfl); done)
        try simp only [Act.put, List.setIfInBounds_toArray, List.set_cons_zero, List.set_cons_succ]
        refine take_on (i := 10) (v := ?_) rfl (by kernel_rfl) (by kernel_rfl) (by kernel_rfl) (fun _ _ _ h => h) (by rfl) (by assumption) ?_ ?_
        rotate_left
        · ((intro w hSw; (try dsimp only at hSw); go_simp <;> with_reducible rfl); done)
        try simp only [Act.put, List.setIfInBounds_toArray, List.set_cons_zero, List.set_cons_succ]
        refine take_on (i := 11) (v := ?_) rfl (by kernel_rfl) (by kernel_rfl) (by kernel_rfl) (fun _ _ _ h => h) (by rfl) (by assumption) ?_ ?_
        rotate_left
        · ((intro w hSw; (try dsimp only at hSw); go_simp <;> with_reducible rfl); done)
        try simp only [Act.put, List.setIfInBounds_toArray, List.set_cons_zero, List.set_cons_succ]
        refine take_on (i := 12) (v := ?_) rfl (by kernel_rfl) (by kernel_rfl) (by kernel_rfl) (fun _ _ _ h => h) (by rfl) (by assumption) ?_ ?_
        rotate_left
        · ((intro w hSw; (try dsimp only at hSw); go_simp <;> with_reducible rfl); done)
        try simp only [Act.put, List.setIfInBounds_toArray, List.set_cons_zero, List.set_cons_succ]
        refine take_on (i := 13) (v := ?_) rfl (by kernel_rfl) (by kernel_rfl) (by kernel_rfl) (fun _ _ _ h => h) (by rfl) (by assumption) ?_ ?_
        rotate_left
        · ((intro w hSw; (try dsimp only at hSw); go_simp <;> with_reducible rfl); done)
        try simp only [Act.put, List.setIfInBounds_toArray, List.set_cons_zero, List.set_cons_succ]
        refine wpAnyH_done (by kernel_rfl) ?_ _
        clear hHeld
        go_wp2_with (at_builtin; refine wpList_append_sl rfl (.tmp 37) (.tmp 39) 61 rfl 80 i0 _ 2 16 Tryz.underlying61 Hi.out Hz0.out Hz1.out Hz2.out rfl (by decide) (some g) n c _ rfl ((HS.out.drewN 1).alloc _) ⟨Y.heap.size, 0, none⟩ 1 1 [.int .i64 lo, .int .i64 hi] rfl rfl ?hnews2 ?hone2 (by decide) (by omega) (by omega) ?hk2)
        case hone2 => exact ⟨rfl, rfl⟩
        case hk2 =>
          intro g' c2 w2 hsl hk2 hg
          have HSL := Lib.hid hsl
          have K2 := Lib.hid ((((KY.out.drew).alloc _).mono (by simp)).trans hk2)
          have HG := Lib.hid hg
          clear hsl hk2 hg y0 y1 hx hff
          go_wp2
          go_ret
          refine ⟨g', c2, ?_, ?_, K2.out, ?_⟩
          · rw [HR.out]
            show Ending.returned (.slice (some ⟨g', 0, none⟩) (n + 1) c2) = _
            rw [HN.out]
            simp
          · rw [HR.out, flatP_append]
            have := HSL.out
            rw [show ((ll ++ [(p, q)]) ++ [(lo, hi)]).length = n + 1 by rw [HN.out]; simp]
            exact this
          · rcases HG.out with h | h
            · exact .inl (congrArg some h)
            · exact .inr (by have h : Y.heap.size + 1 ≤ g' := h; have := KY.out.size; omega)

end Go.Proofs.YtgdmkddegcecaaaGreat
