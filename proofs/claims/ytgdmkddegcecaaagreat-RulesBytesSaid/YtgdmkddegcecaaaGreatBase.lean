/- Plain lemmas on worlds, blocks, frames and rows of integers. No condition: every lemma says its own. -/
import Derived.WalkKit
import Derived.WalkSpells
import Derived.WalkLawsBesides
import Derived.Lib.Hide
import Derived.Laws.CopyOwn
import Derived.Laws.MakeOwn
import Derived.Deep.QuietTactic
namespace Go.Proofs.YtgdmkddegcecaaaGreat
open Go.RowKit

/-- All blocks but those in S are as they were; no block has gone. -/
structure Keeps (S : List Nat) (w w' : World) : Prop where
  os : w'.os = w.os
  tape : w'.tape = w.tape
  output : w'.output = w.output
  size : w.heap.size ≤ w'.heap.size
  block : ∀ k, k < w.heap.size → k ∉ S → w'.heap[k]? = w.heap[k]?

theorem Keeps.refl (S : List Nat) (w : World) : Keeps S w w := ⟨rfl, rfl, rfl, Nat.le_refl _, fun _ _ _ => rfl⟩
theorem Keeps.trans {S : List Nat} {a b c : World} (h : Keeps S a b) (k : Keeps S b c) : Keeps S a c :=
  ⟨k.os.trans h.os, k.tape.trans h.tape, k.output.trans h.output, Nat.le_trans h.size k.size, fun i hi hs => (k.block i (Nat.lt_of_lt_of_le hi h.size) hs).trans (h.block i hi hs)⟩
theorem Keeps.mono {S S' : List Nat} {w w' : World} (h : Keeps S w w') (hS : ∀ k, k ∈ S → k ∈ S' ∨ w.heap.size ≤ k) : Keeps S' w w' :=
  ⟨h.os, h.tape, h.output, h.size, fun k hk hs => h.block k hk (fun hm => by rcases hS k hm with h1 | h1; exact hs h1; omega)⟩
/-- A second step whose blocks are either in S or newer than the first world. -/
theorem Keeps.after {S S' : List Nat} {a b c : World} (h : Keeps S a b) (k : Keeps S' b c) (hS : ∀ x, x ∈ S' → x ∈ S ∨ a.heap.size ≤ x) : Keeps S a c :=
  ⟨k.os.trans h.os, k.tape.trans h.tape, k.output.trans h.output, Nat.le_trans h.size k.size, fun i hi hs =>
    (k.block i (Nat.lt_of_lt_of_le hi h.size) (fun hm => by rcases hS i hm with h1 | h1; exact hs h1; omega)).trans (h.block i hi hs)⟩
theorem Keeps.drew {S : List Nat} {a w : World} (h : Keeps S a w) : Keeps S a w.drew := ⟨h.os, h.tape, h.output, h.size, h.block⟩
theorem Keeps.drewN {S : List Nat} {a w : World} (h : Keeps S a w) (n : Nat) : Keeps S a (w.drewN n) := ⟨h.os, h.tape, h.output, h.size, h.block⟩
theorem Keeps.alloc {S : List Nat} {a w : World} (h : Keeps S a w) (o : Obj) : Keeps S a (w.alloc o) :=
  h.trans ⟨rfl, rfl, rfl, by simp, fun k hk _ => Below.heap_alloc _ _ _ (by omega)⟩
theorem Keeps.setCell {S : List Nat} {a w : World} (h : Keeps S a w) {p : Addr} (hp : p.block ∈ S ∨ a.heap.size ≤ p.block) (u : Value) : Keeps S a (w.setCell p u) :=
  ⟨h.os, h.tape, h.output, by have := h.size; simp [World.setCell]; exact this, fun k hk hs => by
    rw [Below.heap_setCell _ _ _ _ (fun e => by rcases hp with h1 | h1; exact hs (e ▸ h1); omega)]; exact h.block k hk hs⟩
theorem Keeps.setRow {S : List Nat} {a w : World} (h : Keeps S a w) {g : Nat} (hp : g ∈ S ∨ a.heap.size ≤ g) (cs : Array Value) : Keeps S a (w.setRow g cs) :=
  ⟨h.os, h.tape, h.output, by have := h.size; simp; exact this, fun k hk hs => by
    rw [setRow_other _ _ _ _ (fun e => by rcases hp with h1 | h1; exact hs (e ▸ h1); omega)]; exact h.block k hk hs⟩
theorem Keeps.below {B : Nat} {w w' : World} (h : Keeps [] w w') (hB : B ≤ w.heap.size) : Below B w w' := ⟨h.os, h.tape, h.output, h.size, fun k hk => h.block k (by omega) (by simp)⟩
theorem Keeps.of_grown {w w' : World} {row : Option Nat} (hg : w.grownBy w' row) : Keeps row.toList w w' :=
  ⟨hg.os, hg.tape, hg.output, hg.size, fun k hk hs => hg.block k hk (fun e => hs (by rw [← e]; simp))⟩
theorem Keeps.of_below {w w' : World} (h : Below w.heap.size w w') : Keeps [] w w' := ⟨h.os, h.tape, h.output, h.size, fun k hk _ => h.block k hk⟩
theorem Keeps.heap {S : List Nat} {w w' : World} (h : Keeps S w w') {b : Nat} {o : Obj} (hb : w.heap[b]? = some o) (hs : b ∉ S) : w'.heap[b]? = some o := (h.block b (lt_of_block hb) hs).trans hb

theorem Keeps.cell {S : List Nat} {w w' : World} (h : Keeps S w w') {a : Addr} {v : Value} (hc : w.cell? a = some v) (hs : a.block ∉ S) : w'.cell? a = some v :=
  (World.cell?_of_block (h.block a.block (World.block_lt_of_cell? w a hc) hs)).trans hc

/-- Block b is a whole row of integers of type E. -/
def Ints (E : Nat) (w : World) (b : Nat) (zs : List Int) : Prop := w.heap[b]? = some (.cells (zs.map (Value.int .i64)).toArray E (0, 0))
theorem Ints.lt {E : Nat} {w : World} {b : Nat} {zs : List Int} (h : Ints E w b zs) : b < w.heap.size := lt_of_block h
theorem Ints.fz {E : Nat} {w : World} {b : Nat} {zs : List Int} (h : Ints E w b zs) (i : Nat) : w.frozen? ⟨b, i, none⟩ = false := by unfold Ints at h; simp [World.frozen?, h]
theorem Ints.cell {E : Nat} {w : World} {b : Nat} {zs : List Int} (h : Ints E w b zs) (i : Nat) (hi : i < zs.length) : w.cell? ⟨b, i, none⟩ = some (.int .i64 zs[i]) := by unfold Ints at h; simp [World.cell?, h, hi]
theorem Ints.cellD {E : Nat} {w : World} {b : Nat} {zs : List Int} (h : Ints E w b zs) (i : Nat) (hi : i < zs.length) : w.cell? ⟨b, i, none⟩ = some (.int .i64 (zs[i]?.getD 0)) := by rw [h.cell i hi]; simp [hi]
theorem Ints.drewN {E : Nat} {w : World} {b : Nat} {zs : List Int} (h : Ints E w b zs) (n : Nat) : Ints E (w.drewN n) b zs := h
theorem Ints.keep {E : Nat} {S : List Nat} {w w' : World} {b : Nat} {zs : List Int} (h : Ints E w b zs) (k : Keeps S w w') (hs : b ∉ S) : Ints E w' b zs := k.heap h hs
theorem Ints.set {E : Nat} {w : World} {b : Nat} {zs : List Int} (h : Ints E w b zs) (i : Nat) (x : Int) : Ints E (w.setCell ⟨b, i, none⟩ (.int .i64 x)) b (zs.set i x) := by
  have e := heap_setCell_same w b i _ E (.int .i64 x) h
  unfold Ints
  rw [e]
  congr 2
  apply Array.ext'
  simp [List.map_set]
theorem Ints.alloc (E : Nat) (w : World) (zs : List Int) : Ints E (w.alloc (.cells (zs.map (Value.int .i64)).toArray E)) w.heap.size zs := heap_alloc_new w _

theorem zeroCells_one (v : Value) (n : Nat) : (Builtin.zeroCells #[v] n).toList = List.replicate n v := by
  apply List.ext_getElem
  · simp [Builtin.zeroCells]
  · intro i h1 h2; simp [Builtin.zeroCells, Nat.mod_one]
theorem madeCells_one (v : Value) (n : Nat) : madeCells #[v] n = (List.replicate n v).toArray := by
  apply Array.ext
  · simp [size_madeCells]
  · intro j h1 h2
    simp [madeCells, Nat.mod_one]

theorem run_clear_ints {P : Program} {E T : Nat} {w : World} {u : Nat} {zs : List Int} (h : Ints E w u zs) (ht : P.underlying T = some (.slice E)) (hv : ∀ w, (zeroValue E).run P w = .ok (.int .i64 0) w) (ty c : Nat) :
    (Builtin.clear_ #[T] ty #[.slice (some ⟨u, 0, none⟩) zs.length c]).run P w = .ok (.tuple #[]) (w.setRow u ((zs.map fun _ => (0 : Int)).map (Value.int .i64)).toArray) := by
  cases zs with
  | nil =>
    have := setRow_self w u _ E (0, 0) h
    simp [Builtin.clear_, run_underlying ht]
    simpa using this.symm
  | cons z zs =>
    have hst := run_storeCells_at P u 0 E (List.replicate (zs.length + 1) (Value.int .i64 0)) 0 _ w h (by simp) (by intro v hv; rw [List.eq_of_mem_replicate hv]; rfl)
    simp only [List.length_cons]
    simp [Builtin.clear_, run_underlying ht, hv, Value.cells, zeroCells_one, hst]
    congr 1
    apply Array.ext'
    simp [List.replicate_succ]
    rw [List.drop_of_length_le (by simp)]
    simp
    apply List.ext_getElem
    · simp
    · intro i h1 h2; simp

theorem run_make_ints {P : Program} {E T : Nat} {i : TypeInfo} (ht : P.underlying T = some (.slice E)) (hi : P.info? E = some i) (hz : i.zero = some (.int .i64 0)) (hs : i.size = 1) (hb : i.bytes = 8) (w : World) (n : Int) (h0 : 0 ≤ n) (h1 : n ≤ 17592186044416) :
    (Instr.makeSlice T (.int .i64 n) (.int .i64 n)).run P w = .ok (.slice (some ⟨w.heap.size, 0, none⟩) n.toNat n.toNat) (w.alloc (.cells ((List.replicate n.toNat (0 : Int)).map (Value.int .i64)).toArray E)) := by
  have h := run_make (P := P) w T E i (.int .i64 0) ht hi hz .i64 .i64 n n h0 (Int.le_refl _) (by rw [hb]; omega) (by omega)
  rw [h]
  congr 3
  rw [show (Value.int .i64 0).cells = #[Value.int .i64 0] from rfl, madeCells_one, hs]
  simp

theorem run_copy_ints {P : Program} {E T : Nat} {i : TypeInfo} (ht : P.underlying T = some (.slice E)) (hi : P.info? E = some i) (hs : i.size = 1) {w : World} {g u : Nat} {ys zs : List Int} (hg : Ints E w g ys) (hu : Ints E w u zs) (hl : ys.length = zs.length) (ty c c' : Nat) :
    (Builtin.copy_ #[T, T] ty #[.slice (some ⟨g, 0, none⟩) zs.length c, .slice (some ⟨u, 0, none⟩) zs.length c']).run P w = .ok (goInt zs.length) (w.setRow g (zs.map (Value.int .i64)).toArray) := by
  have h := run_copy_row (P := P) w T T ty E g 0 zs.length c ⟨u, 0, none⟩ zs.length c' _ E (zs.map (Value.int .i64)) ht (by simp [hi, hs]) hg (by simp)
    (by intro j v hj; unfold Ints at hu; simp only [Addr.add]; simp at hj; obtain ⟨x, hx, rfl⟩ := hj; split <;> simp_all [World.cell?]) (by simp [hl]) (by intro v hv; simp at hv; obtain ⟨x, _, rfl⟩ := hv; rfl)
  rw [h]
  simp
  rw [List.drop_of_length_le (by simp [hl])]
  simp

theorem quiet_left {P : Program} {f : FuncId} {args : Array Value} {w : World} {n : Nat} {v : Value}
    (h : Calls P f args (w.drewN n) fun e w' => e = .returned v ∧ w.drewN n = w') : Calls P f args (w.drewN n) fun e w'' => e = .returned v ∧ ∃ m, w'' = w.drewN m :=
  h.mono fun _ _ ⟨he, hm⟩ => ⟨he, n, hm.symm⟩
theorem quiet_add {P : Program} {f : FuncId} {args : Array Value} {w : World} {a n : Nat} {v : Value}
    (h : Calls P f args (w.drewN (a + n)) fun e w' => e = .returned v ∧ ∃ m, w' = (w.drewN (a + n)).drewN m) :
    Calls P f args (w.drewN (a + n)) fun e w'' => e = .returned v ∧ ∃ m, w'' = w.drewN (a + m) :=
  h.mono fun _ _ ⟨he, m, hm⟩ => ⟨he, n + m, by rw [hm, World.drewN_drewN, Nat.add_assoc]⟩
theorem quiet_add_left {P : Program} {f : FuncId} {args : Array Value} {w : World} {a n : Nat} {v : Value}
    (h : Calls P f args (w.drewN (a + n)) fun e w' => e = .returned v ∧ w.drewN (a + n) = w') :
    Calls P f args (w.drewN (a + n)) fun e w'' => e = .returned v ∧ ∃ m, w'' = w.drewN (a + m) :=
  h.mono fun _ _ ⟨he, hm⟩ => ⟨he, n, hm.symm⟩

end Go.Proofs.YtgdmkddegcecaaaGreat
