/- slices.Sort and slices.Compact of a slice of integers of its own, by the shelf's contracts laid over this program. Conditions: the slice is a block of its own. -/
import Derived.Test.YtgdmkddegcecaaaGreatAdd
import Derived.Shelf.Sort.Plain
import Derived.Shelf.Slices.CompactI
namespace Go.Proofs.YtgdmkddegcecaaaGreat
open Go.RowKit Go.Shelf

/-- The numbers of this program for those of the shelf. -/
def sortRen : Ren where
  f := fun x => match x with
    | 189 => 102
    | 125 => 106
    | 257 => 105
    | 128 => 116
    | 129 => 117
    | 294 => 107
    | 295 => 108
    | 296 => 109
    | 297 => 110
    | 298 => 111
    | 299 => 112
    | 216 => 113
    | 300 => 114
    | 301 => 115
    | 328 => 118
    | 329 => 119
    | 330 => 120
    | 331 => 121
    | 332 => 122
    | 215 => 123
    | 343 => 124
    | n => n
  t := fun x => match x with
    | 28 => 22
    | 3 => 3
    | 46 => 60
    | 0 => 0
    | 51 => 137
    | 53 => 58
    | 4 => 4
    | 183 => 130
    | 182 => 129
    | 131 => 94
    | 5 => 5
    | 9 => 9
    | 218 => 139
    | 222 => 142
    | 228 => 145
    | 229 => 146
    | n => n
  g := fun n => n
theorem sortLays : Lays.n189 Tryz.prog sortRen where
  mixed := by kernel_rfl
  f125 := Tryz.func106.trans (congrArg some (by kernel_rfl))
  f128 := Tryz.func116.trans (congrArg some (by kernel_rfl))
  f129 := Tryz.func117.trans (congrArg some (by kernel_rfl))
  f189 := Tryz.func102.trans (congrArg some (by kernel_rfl))
  f215 := Tryz.func123.trans (congrArg some (by kernel_rfl))
  f216 := Tryz.func113.trans (congrArg some (by kernel_rfl))
  f257 := Tryz.func105.trans (congrArg some (by kernel_rfl))
  f294 := Tryz.func107.trans (congrArg some (by kernel_rfl))
  f295 := Tryz.func108.trans (congrArg some (by kernel_rfl))
  f296 := Tryz.func109.trans (congrArg some (by kernel_rfl))
  f297 := Tryz.func110.trans (congrArg some (by kernel_rfl))
  f298 := Tryz.func111.trans (congrArg some (by kernel_rfl))
  f299 := Tryz.func112.trans (congrArg some (by kernel_rfl))
  f300 := Tryz.func114.trans (congrArg some (by kernel_rfl))
  f301 := Tryz.func115.trans (congrArg some (by kernel_rfl))
  f328 := Tryz.func118.trans (congrArg some (by kernel_rfl))
  f329 := Tryz.func119.trans (congrArg some (by kernel_rfl))
  f330 := Tryz.func120.trans (congrArg some (by kernel_rfl))
  f331 := Tryz.func121.trans (congrArg some (by kernel_rfl))
  f332 := Tryz.func122.trans (congrArg some (by kernel_rfl))
  f343 := Tryz.func124.trans (congrArg some (by kernel_rfl))
  t0 := Tryz.underlying0
  a0 := Tryz.isAgg0
  z0 := Tryz.sizeOf0
  v0 := Tryz.zeroValue0
  t3 := Tryz.underlying3
  a3 := Tryz.isAgg3
  z3 := Tryz.sizeOf3
  v3 := Tryz.zeroValue3
  t4 := Tryz.underlying4
  a4 := Tryz.isAgg4
  z4 := Tryz.sizeOf4
  v4 := Tryz.zeroValue4
  t5 := Tryz.underlying5
  a5 := Tryz.isAgg5
  z5 := Tryz.sizeOf5
  v5 := Tryz.zeroValue5
  t9 := Tryz.underlying9
  a9 := Tryz.isAgg9
  z9 := Tryz.sizeOf9
  v9 := Tryz.zeroValue9
  t28 := Tryz.underlying22
  a28 := Tryz.isAgg22
  z28 := Tryz.sizeOf22
  v28 := Tryz.zeroValue22
  t46 := Tryz.underlying60
  a46 := Tryz.isAgg60
  z46 := Tryz.sizeOf60
  v46 := Tryz.zeroValue60
  t51 := Tryz.underlying137
  a51 := Tryz.isAgg137
  z51 := Tryz.sizeOf137
  v51 := Tryz.zeroValue137
  t53 := Tryz.underlying58
  a53 := Tryz.isAgg58
  z53 := Tryz.sizeOf58
  v53 := Tryz.zeroValue58
  t131 := Tryz.underlying94
  a131 := Tryz.isAgg94
  z131 := Tryz.sizeOf94
  v131 := Tryz.zeroValue94
  t182 := Tryz.underlying129
  a182 := Tryz.isAgg129
  z182 := Tryz.sizeOf129
  v182 := Tryz.zeroValue129
  t183 := Tryz.underlying130
  a183 := Tryz.isAgg130
  z183 := Tryz.sizeOf130
  v183 := Tryz.zeroValue130
  t218 := Tryz.underlying139
  a218 := Tryz.isAgg139
  z218 := Tryz.sizeOf139
  v218 := Tryz.zeroValue139
  t222 := Tryz.underlying142
  a222 := Tryz.isAgg142
  z222 := Tryz.sizeOf142
  v222 := Tryz.zeroValue142
  t228 := Tryz.underlying145
  a228 := Tryz.isAgg145
  z228 := Tryz.sizeOf145
  v228 := Tryz.zeroValue145
  t229 := Tryz.underlying146
  a229 := Tryz.isAgg146
  z229 := Tryz.sizeOf146
  v229 := Tryz.zeroValue146
/-- The numbers of this program for those of the shelf. -/
def compactRen : Ren where
  f := fun x => match x with
    | 20 => 103
    | n => n
  t := fun x => match x with
    | 22 => 22
    | 3 => 3
    | 4 => 4
    | 0 => 0
    | n => n
  g := fun n => n
theorem compactLays : Lays2.n20 Tryz.prog compactRen where
  mixed := by kernel_rfl
  f20 := Tryz.func103.trans (congrArg some (by kernel_rfl))
  t0 := Tryz.underlying0
  a0 := Tryz.isAgg0
  z0 := Tryz.sizeOf0
  v0 := Tryz.zeroValue0
  t3 := Tryz.underlying3
  a3 := Tryz.isAgg3
  z3 := Tryz.sizeOf3
  v3 := Tryz.zeroValue3
  t4 := Tryz.underlying4
  a4 := Tryz.isAgg4
  z4 := Tryz.sizeOf4
  v4 := Tryz.zeroValue4
  t22 := Tryz.underlying22
  a22 := Tryz.isAgg22
  z22 := Tryz.sizeOf22
  v22 := Tryz.zeroValue22
  i3 := by kernel_rfl

end Go.Proofs.YtgdmkddegcecaaaGreat

namespace Go.Proofs.YtgdmkddegcecaaaGreat
open Go.RowKit Go.Shelf Go.Sort

theorem SliceAt.holds {w : World} {e g n c : Nat} {zs : List Int} (h : SliceAt w e 1 (some g) n c (zs.map (Value.int .i64))) : Holds (Value.int .i64) w g 0 zs.toArray := by
  intro j hj
  have hj' : j < zs.length := by simpa using hj
  refine ⟨?_, h.fz _⟩
  have := h.cell j (by simpa using hj')
  rw [Nat.zero_add, this]
  simp [hj']
theorem putRow_heap {w : World} {g : Nat} {cur : Array Value} {e : Nat} {fr : Nat × Nat} (h : w.heap[g]? = some (.cells cur e fr)) (d : Array Int) : (putRow (Value.int .i64) w g 0 d).heap[g]? = some (.cells (putCells (Value.int .i64) 0 d cur) e fr) := by
  show (w.heap.modify g (onCells (putCells (Value.int .i64) 0 d)))[g]? = _
  rw [Array.getElem?_modify, if_pos rfl, h]
  rfl
theorem putRow_keeps (w : World) (g : Nat) (d : Array Int) : Keeps [g] w (putRow (Value.int .i64) w g 0 d) :=
  ⟨rfl, rfl, rfl, by simp [putRow, mapBlock], fun k hk hs => by
    have : ¬ g = k := fun h => hs (by simp [h])
    simp [putRow, mapBlock, Array.getElem?_modify, this]⟩
theorem ahead_keeps (w : World) (n : Nat) : Keeps [] w (Sort.ahead w n) := ⟨rfl, rfl, rfl, Nat.le_refl _, fun _ _ _ => rfl⟩
theorem grow_keeps (w : World) (os : Array Obj) : Keeps [] w (grow w os) :=
  ⟨rfl, rfl, rfl, by simp [grow], fun k hk _ => by simp [grow, Array.getElem?_append_left hk]⟩
theorem SliceAt.putRow {w : World} {e g n c : Nat} {zs d : List Int} (h : SliceAt w e 1 (some g) n c (zs.map (Value.int .i64))) (hd : d.length = n) : SliceAt (Sort.putRow (Value.int .i64) w g 0 d.toArray) e 1 (some g) n c (d.map (Value.int .i64)) := by
  obtain ⟨h1, cur, h2, h3, h4, h5, h6⟩ := h
  refine ⟨by simp [hd], _, putRow_heap h2 _, h3, h4, by simpa [putCells] using h5, ?_⟩
  have hc : cur.size = c := by omega
  apply List.ext_getElem?
  intro i
  rw [List.getElem?_take]
  by_cases hi : i < n
  · have hic : i < cur.size := by omega
    simp [putCells, hi, hd, hic]
  · have : (d.map (Value.int .i64))[i]? = none := by rw [List.getElem?_eq_none]; simp; omega
    simp [hi, this]

theorem sort_any (g c : Nat) (zs : List Int) (w : World) (h : SliceAt w 3 1 (some g) zs.length c (zs.map (Value.int .i64))) (hn : zs.length ≤ 1000000) :
    Calls Tryz.prog 102 #[.slice (some ⟨g, 0, none⟩) zs.length c] w fun e w' => e = .returned (.tuple #[]) ∧ SliceAt w' 3 1 (some g) zs.length c ((zs.mergeSort fun x y => decide (x ≤ y)).map (Value.int .i64)) ∧ Keeps [g] w w' := by
  refine (Any.slices_Sort_int sortLays g 0 c zs w h.holds h.lt (by omega)).mono ?_
  rintro e w' ⟨rfl, n, os, rfl⟩
  have hp := (h.keep (S := []) (ahead_keeps w n) (by simp)).putRow (d := zs.mergeSort fun x y => decide (x ≤ y)) (List.length_mergeSort zs)
  exact ⟨rfl, hp.keep (S := []) (grow_keeps _ os) (by simp), ((ahead_keeps w n).mono (by simp)).trans ((putRow_keeps _ g _).trans ((grow_keeps _ os).mono (by simp)))⟩

theorem compact_len (zs : List Int) : (Lib.compact zs).length ≤ zs.length := by
  unfold Lib.compact Lib.compactUpTo
  rw [List.length_map]
  exact Nat.le_trans (List.length_filter_le _ _) (by simp)
theorem compact_any (g c : Nat) (zs : List Int) (w : World) (h : SliceAt w 3 1 (some g) zs.length c (zs.map (Value.int .i64))) (hn : zs.length ≤ 1000000) :
    Calls Tryz.prog 103 #[.slice (some ⟨g, 0, none⟩) zs.length c] w fun e w' => e = .returned (.slice (some ⟨g, 0, none⟩) (Lib.compact zs).length c) ∧ SliceAt w' 3 1 (some g) (Lib.compact zs).length c ((Lib.compact zs).map (Value.int .i64)) ∧ Keeps [g] w w' := by
  have hle := compact_len zs
  refine (Any.slices_Compact_int compactLays g 0 c zs w h.holds (by omega) ?_).mono ?_
  · obtain ⟨_, cur, _, h3, _⟩ := h
    exact h3
  rintro e w' ⟨rfl, q, rfl⟩
  have hp := (h.keep (S := []) (ahead_keeps w q) (by simp)).putRow (d := Lib.compact zs ++ List.replicate (zs.length - (Lib.compact zs).length) 0) (by simp; omega)
  refine ⟨rfl, ?_, ((ahead_keeps w q).mono (by simp)).trans (putRow_keeps _ g _)⟩
  obtain ⟨h1, cur, h2, h3, h4, h5, h6⟩ := hp
  refine ⟨by simp, cur, h2, by omega, h4, h5, ?_⟩
  have := congrArg (List.take (Lib.compact zs).length) h6
  rw [List.take_take, Nat.mul_one, Nat.min_eq_left hle, List.map_append, List.take_left' (by simp)] at this
  rw [Nat.mul_one]
  exact this

end Go.Proofs.YtgdmkddegcecaaaGreat
