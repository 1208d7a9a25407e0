/- Part 1 of the proof. No condition: every lemma says its own. -/
import Derived.WalkKit
import Derived.WalkSpells
import Derived.WalkLawsBesides
import Derived.Lib.Hide
import Derived.Laws.CopyOwn
import Derived.Laws.MakeOwn
import Derived.Deep.QuietTactic
import Derived.Laws.AppendOwn
import Derived.BigQuiet
import Derived.Deep.LoopGhost
import Derived.OpenShut
import Derived.Test.YtkekenaamnhbhaaGreatProg
namespace Go.Proofs.YtkekenaamnhbhaaGreat
open Go.RowKit
set_option maxRecDepth 100000
set_option maxHeartbeats 16000000
theorem gI {p : Prop} (h : p) : Hid p := h
structure Keeps (S : List Nat) (w w' : World) : Prop where
 os : w'.os = w.os
 tape : w'.tape = w.tape
 output : w'.output = w.output
 size : w.heap.size ≤ w'.heap.size
 block : ∀ k, k < w.heap.size → k ∉ S → w'.heap[k]? = w.heap[k]?
theorem Keeps.refl (S : List Nat) (w : World) : Keeps S w w := ⟨rfl, rfl, rfl, Nat.le_refl _, fun _ _ _ => rfl⟩
theorem Keeps.trans {S : List Nat} {a b c : World} (h : Keeps S a b) (k : Keeps S b c) : Keeps S a c :=
 ⟨k.os.trans h.os, k.tape.trans h.tape, k.output.trans h.output, Nat.le_trans h.size k.size, fun i hi hs => (k.block i (Nat.lt_of_lt_of_le hi h.size) hs).trans (h.block i hi hs)⟩
theorem Keeps.mono {S S' : List Nat} {w w' : World} (h : Keeps S w w') (hS : ∀ k, k ∈ S → k ∈ S' ∨ w.heap.size ≤ k) : Keeps S' w w' :=
 ⟨h.os, h.tape, h.output, h.size, fun k hk hs => h.block k hk (fun hm => by rcases hS k hm with h1 | h1; exact hs h1; omega)⟩
theorem Keeps.after {S S' : List Nat} {a b c : World} (h : Keeps S a b) (k : Keeps S' b c) (hS : ∀ x, x ∈ S' → x ∈ S ∨ a.heap.size ≤ x) : Keeps S a c :=
 ⟨k.os.trans h.os, k.tape.trans h.tape, k.output.trans h.output, Nat.le_trans h.size k.size, fun i hi hs =>
  (k.block i (Nat.lt_of_lt_of_le hi h.size) (fun hm => by rcases hS i hm with h1 | h1; exact hs h1; omega)).trans (h.block i hi hs)⟩
theorem Keeps.drew {S : List Nat} {a w : World} (h : Keeps S a w) : Keeps S a w.drew := ⟨h.os, h.tape, h.output, h.size, h.block⟩
theorem Keeps.drewN {S : List Nat} {a w : World} (h : Keeps S a w) (n : Nat) : Keeps S a (w.drewN n) := ⟨h.os, h.tape, h.output, h.size, h.block⟩
theorem Keeps.alloc {S : List Nat} {a w : World} (h : Keeps S a w) (o : Obj) : Keeps S a (w.alloc o) :=
 h.trans ⟨rfl, rfl, rfl, by simp, fun k hk _ => Below.heap_alloc _ _ _ (by omega)⟩
theorem Keeps.setCell {S : List Nat} {a w : World} (h : Keeps S a w) {p : Addr} (hp : p.block ∈ S ∨ a.heap.size ≤ p.block) (u : Value) : Keeps S a (w.setCell p u) :=
 ⟨h.os, h.tape, h.output, by have := h.size; simp [World.setCell]; exact this, fun k hk hs => by
  rw [Below.heap_setCell _ _ _ _ (fun e => by rcases hp with h1 | h1; exact hs (e ▸ h1); omega)]; exact h.block k hk hs⟩
theorem Keeps.setRow {S : List Nat} {a w : World} (h : Keeps S a w) {g : Nat} (hp : g ∈ S ∨ a.heap.size ≤ g) (cs : Array Value) : Keeps S a (w.setRow g cs) :=
 ⟨h.os, h.tape, h.output, by have := h.size; simp; exact this, fun k hk hs => by
  rw [setRow_other _ _ _ _ (fun e => by rcases hp with h1 | h1; exact hs (e ▸ h1); omega)]; exact h.block k hk hs⟩
theorem Keeps.below {B : Nat} {w w' : World} (h : Keeps [] w w') (hB : B ≤ w.heap.size) : Below B w w' := ⟨h.os, h.tape, h.output, h.size, fun k hk => h.block k (by omega) (by simp)⟩
theorem Keeps.of_grown {w w' : World} {row : Option Nat} (hg : w.grownBy w' row) : Keeps row.toList w w' :=
 ⟨hg.os, hg.tape, hg.output, hg.size, fun k hk hs => hg.block k hk (fun e => hs (by rw [← e]; simp))⟩
theorem Keeps.of_below {w w' : World} (h : Below w.heap.size w w') : Keeps [] w w' := ⟨h.os, h.tape, h.output, h.size, fun k hk _ => h.block k hk⟩
theorem Keeps.heap {S : List Nat} {w w' : World} (h : Keeps S w w') {b : Nat} {o : Obj} (hb : w.heap[b]? = some o) (hs : b ∉ S) : w'.heap[b]? = some o := (h.block b (lt_of_block hb) hs).trans hb
theorem Keeps.cell {S : List Nat} {w w' : World} (h : Keeps S w w') {a : Addr} {v : Value} (hc : w.cell? a = some v) (hs : a.block ∉ S) : w'.cell? a = some v :=
 (World.cell?_of_block (h.block a.block (World.block_lt_of_cell? w a hc) hs)).trans hc
def Ints (E : Nat) (w : World) (b : Nat) (zs : List Int) : Prop := w.heap[b]? = some (.cells (zs.map (Value.int .i64)).toArray E (0, 0))
theorem Ints.lt {E : Nat} {w : World} {b : Nat} {zs : List Int} (h : Ints E w b zs) : b < w.heap.size := lt_of_block h
theorem Ints.fz {E : Nat} {w : World} {b : Nat} {zs : List Int} (h : Ints E w b zs) (i : Nat) : w.frozen? ⟨b, i, none⟩ = false := by unfold Ints at h; simp [World.frozen?, h]
theorem Ints.cell {E : Nat} {w : World} {b : Nat} {zs : List Int} (h : Ints E w b zs) (i : Nat) (hi : i < zs.length) : w.cell? ⟨b, i, none⟩ = some (.int .i64 zs[i]) := by unfold Ints at h; simp [World.cell?, h, hi]
theorem Ints.drewN {E : Nat} {w : World} {b : Nat} {zs : List Int} (h : Ints E w b zs) (n : Nat) : Ints E (w.drewN n) b zs := h
theorem Ints.keep {E : Nat} {S : List Nat} {w w' : World} {b : Nat} {zs : List Int} (h : Ints E w b zs) (k : Keeps S w w') (hs : b ∉ S) : Ints E w' b zs := k.heap h hs
theorem Ints.set {E : Nat} {w : World} {b : Nat} {zs : List Int} (h : Ints E w b zs) (i : Nat) (x : Int) : Ints E (w.setCell ⟨b, i, none⟩ (.int .i64 x)) b (zs.set i x) := by
 have e := heap_setCell_same w b i _ E (.int .i64 x) h
 unfold Ints
 rw [e]
 congr 2
 apply Array.ext'
 simp [List.map_set]
theorem Ints.alloc (E : Nat) (w : World) (zs : List Int) : Ints E (w.alloc (.cells (zs.map (Value.int .i64)).toArray E)) w.heap.size zs := heap_alloc_new w _
theorem madeCells_one (v : Value) (n : Nat) : madeCells #[v] n = (List.replicate n v).toArray := by
 apply Array.ext
 ·simp [size_madeCells]
 ·intro j h1 h2
  simp [madeCells, Nat.mod_one]
theorem run_make_ints {P : Program} {E T : Nat} {i : TypeInfo} (ht : P.underlying T = some (.slice E)) (hi : P.info? E = some i) (hz : i.zero = some (.int .i64 0)) (hs : i.size = 1) (hb : i.bytes = 8) (w : World) (n : Int) (h0 : 0 ≤ n) (h1 : n ≤ 17592186044416) :
  (Instr.makeSlice T (.int .i64 n) (.int .i64 n)).run P w = .ok (.slice (some ⟨w.heap.size, 0, none⟩) n.toNat n.toNat) (w.alloc (.cells ((List.replicate n.toNat (0 : Int)).map (Value.int .i64)).toArray E)) := by
 have h := run_make (P := P) w T E i (.int .i64 0) ht hi hz .i64 .i64 n n h0 (Int.le_refl _) (by rw [hb]; omega) (by omega)
 rw [h]
 congr 3
 rw [show (Value.int .i64 0).cells = #[Value.int .i64 0] from rfl, madeCells_one, hs]
 simp
theorem quiet_left {P : Program} {f : FuncId} {args : Array Value} {w : World} {n : Nat} {v : Value}
  (h : Calls P f args (w.drewN n) fun e w' => e = .returned v ∧ w.drewN n = w') : Calls P f args (w.drewN n) fun e w'' => e = .returned v ∧ ∃ m, w'' = w.drewN m :=
 h.mono fun _ _ ⟨he, hm⟩ => ⟨he, n, hm.symm⟩
def sv (a : Option Nat) (n c : Nat) : Value := .slice (a.map fun g => ⟨g, 0, none⟩) n c
def SliceAt (w : World) (e size : Nat) (a : Option Nat) (n c : Nat) (xs : List Value) : Prop :=
 xs.length = n * size ∧
 match a with
 | none => n = 0 ∧ c = 0
 | some g => ∃ cur : Array Value, w.heap[g]? = some (.cells cur e (0, 0)) ∧ n ≤ c ∧ c ≤ maxLen ∧ cur.size = c * size ∧ cur.toList.take (n * size) = xs
theorem SliceAt.nil (w : World) (e size : Nat) : SliceAt w e size none 0 0 [] := ⟨by simp, rfl, rfl⟩
theorem SliceAt.owns {w : World} {e size : Nat} {a : Option Nat} {n c : Nat} {xs : List Value} (h : SliceAt w e size a n c xs) : w.ownsRow 0 e size (sv a n c) n xs := by
 refine ⟨h.1, ?_⟩
 cases a with
 | none => obtain ⟨h1, rfl, rfl⟩ := h; exact .inl ⟨rfl, rfl⟩
 | some g => obtain ⟨h1, cur, h2, h3, h4, h5, h6⟩ := h; exact .inr ⟨g, c, cur, rfl, Nat.zero_le _, h2, h3, h4, h5, h6⟩
theorem SliceAt.lt {w : World} {e size : Nat} {g : Nat} {n c : Nat} {xs : List Value} (h : SliceAt w e size (some g) n c xs) : g < w.heap.size := by
 obtain ⟨_, cur, h2, _⟩ := h; exact lt_of_block h2
theorem SliceAt.keep {S : List Nat} {w w' : World} {e size : Nat} {a : Option Nat} {n c : Nat} {xs : List Value} (h : SliceAt w e size a n c xs) (k : Keeps S w w') (hs : ∀ g, a = some g → g ∉ S) : SliceAt w' e size a n c xs := by
 refine ⟨h.1, ?_⟩
 cases a with
 | none => exact h.2
 | some g => obtain ⟨h1, cur, h2, h3⟩ := h; exact ⟨cur, k.heap h2 (hs g rfl), h3⟩
theorem SliceAt.drewN {w : World} {e size : Nat} {a : Option Nat} {n c : Nat} {xs : List Value} (h : SliceAt w e size a n c xs) (k : Nat) : SliceAt (w.drewN k) e size a n c xs := h.keep ((Keeps.refl [] w).drewN k) (by simp)
theorem SliceAt.alloc {w : World} {e size : Nat} {a : Option Nat} {n c : Nat} {xs : List Value} (h : SliceAt w e size a n c xs) (o : Obj) : SliceAt (w.alloc o) e size a n c xs := h.keep ((Keeps.refl [] w).alloc o) (by simp)
theorem SliceAt.cell {w : World} {e size : Nat} {g : Nat} {n c : Nat} {xs : List Value} (h : SliceAt w e size (some g) n c xs) (i : Nat) (hi : i < xs.length) : w.cell? ⟨g, i, none⟩ = some xs[i] := by
 obtain ⟨h1, cur, h2, h3, h4, h5, h6⟩ := h
 subst h6
 simp at hi
 simp [World.cell?, h2]
theorem SliceAt.fz {w : World} {e size : Nat} {g : Nat} {n c : Nat} {xs : List Value} (h : SliceAt w e size (some g) n c xs) (i : Nat) : w.frozen? ⟨g, i, none⟩ = false := by
 obtain ⟨h1, cur, h2, _⟩ := h
 simp [World.frozen?, h2]
theorem SliceAt.of_row {w : World} {e size : Nat} {g : Nat} {cur : Array Value} {c : Nat} (h : w.heap[g]? = some (.cells cur e (0, 0))) (hc : cur.size = c * size) (hm : c ≤ maxLen) : SliceAt w e size (some g) c c cur.toList :=
 ⟨by simp [hc], cur, h, Nat.le_refl _, hm, hc, by rw [List.take_of_length_le (by simp [hc])]⟩
theorem SliceAt.of_ints {w : World} {e : Nat} {g : Nat} {zs : List Int} (h : Ints e w g zs) (hm : zs.length ≤ maxLen) : SliceAt w e 1 (some g) zs.length zs.length (zs.map (Value.int .i64)) := by
 simpa using SliceAt.of_row (size := 1) h (by simp) hm
theorem news_row (w : World) (xs : List Value) (t : Nat) : ∀ j u, xs[j]? = some u → (w.alloc (.cells xs.toArray t)).cell? ((⟨w.heap.size, 0, none⟩ : Addr).add j) = some u := by
 intro j u hj
 have hadd : (⟨w.heap.size, 0, none⟩ : Addr).add j = ⟨w.heap.size, j, none⟩ := by unfold Addr.add; split <;> simp_all
 rw [hadd, cell_of_row _ _ _ _ _ _ (heap_alloc_new w _)]
 simpa using hj
theorem news_row' (w : World) (xs : List Value) (t : Nat) (m : Nat) (hm : m = w.heap.size) : ∀ j u, xs[j]? = some u → (w.alloc (.cells xs.toArray t)).cell? ((⟨m, 0, none⟩ : Addr).add j) = some u := by
 subst hm; exact news_row w xs t
theorem int_one (x : Int) : ∀ u ∈ [Value.int .i64 x], u.oneCell' = true := by
 intro u hu; simp at hu; subst hu; rfl
theorem run_append_sl {P : Program} (w : World) (t ty e : TypeId) (i : TypeInfo) (z : Value) (size bytes : Nat) (ht : P.underlying t = some (.slice e)) (hi : P.info? e = some i) (hz : i.zero = some z)
  (hsize : i.size = size) (hby : i.bytes = bytes) (hzs : z.cells.size = size) (hsz : 0 < size)
  (a : Option Nat) (n c : Nat) (xs : List Value) (hown : SliceAt w e size a n c xs)
  (ad : Addr) (m cc : Nat) (news : List Value) (hl : news.length = m * size) (hnews : ∀ j u, news[j]? = some u → w.cell? (ad.add j) = some u) (h1 : ∀ u ∈ news, u.oneCell' = true)
  (hm : 0 < m) (hlen : n + m ≤ 140737488355328) (hbytes : (n + m) * bytes ≤ 140737488355328) :
  ∃ g c' w', (Builtin.append_ #[t, t] ty #[sv a n c, .slice (some ad) m cc]).run P w = .ok (.slice (some ⟨g, 0, none⟩) (n + m) c') w' ∧ SliceAt w' e size (some g) (n + m) c' (xs ++ news) ∧ Keeps a.toList w w' ∧ (a = some g ∨ w.heap.size ≤ g) := by
 subst hsize
 subst hby
 have h63 : n + m ≤ maxLen := by unfold maxLen; omega
 have hlen2 : (xs ++ news).length = (n + m) * i.size := by rw [List.length_append, hown.1, hl, Nat.add_mul]
 have grown : ∀ (old : Nat), old < n + m →
   SliceAt (w.drew.alloc (.cells (xs.toArray ++ news.toArray ++ Builtin.zeroCells z.cells (grownCap w (n + m) old e - (n + m))) e)) e i.size (some w.heap.size) (n + m) (grownCap w (n + m) old e) (xs ++ news) := by
  intro old ho
  have hge := grownCap_ge w (n + m) old e
  have hcm : grownCap w (n + m) old e ≤ maxLen := grownCap_le_maxLen w (n + m) old e h63
  refine ⟨hlen2, _, heap_alloc_new w.drew _, hge, hcm, ?_, ?_⟩
  ·simp only [Array.size_append, List.size_toArray, size_zeroCells, hzs, hown.1, hl, ← Nat.add_mul]
   congr 1
   omega
  ·simp only [Array.toList_append, List.append_assoc]
   rw [← List.append_assoc, ← hlen2]
   exact List.take_left
 have hk : ∀ o, Keeps a.toList w (w.drew.alloc o) := fun o => ((Keeps.refl _ w).drew).alloc o
 cases a with
 | none =>
  obtain ⟨hx, rfl, rfl⟩ := hown
  have hx : xs = [] := List.eq_nil_of_length_eq_zero (by simpa using hx)
  subst hx
  have hr := run_append_nil (P := P) w t ty e i z ht hi hz ad m cc news hl hnews (by omega) (by omega) (by have hb := hbytes; simp only [Nat.zero_add] at hb; omega)
  have hgr := grown 0 (by omega)
  simp only [Nat.zero_add, List.nil_append, Array.empty_append] at hgr ⊢
  exact ⟨_, _, _, hr, hgr, hk _, .inr (Nat.le_refl _)⟩
 | some g =>
  obtain ⟨hx, cur, hg, hnc, hcm, hcs, htake⟩ := hown
  by_cases hroom : n + m ≤ c
  ·have hfit : n * i.size + news.length ≤ cur.size := by rw [hl, hcs, ← Nat.add_mul]; exact Nat.mul_le_mul_right _ hroom
   have hr := run_append_room (P := P) w t ty e i ht hi g n c cur hg ad m cc news hl hnews h1 hroom hfit
   refine ⟨_, _, _, hr, ⟨hlen2, _, setRow_heap w g cur _ e _ hg, hroom, hcm, ?_, ?_⟩, (Keeps.refl _ w).setRow (by simp) _, .inl rfl⟩
   ·simp only [List.size_toArray, List.length_append, List.length_take, List.length_drop, Array.length_toList]
    omega
   ·rw [htake, ← hlen2]
    exact List.take_left
  ·have hown : SliceAt w e i.size (some g) n c xs := ⟨hx, cur, hg, hnc, hcm, hcs, htake⟩
   have holds : ∀ j u, xs[j]? = some u → w.cell? ((⟨g, 0, none⟩ : Addr).add j) = some u := hown.owns.cells (g := g) rfl
   have hr := run_append_grow (P := P) w t ty e i z ht hi hz ⟨g, 0, none⟩ n c xs hx holds ad m cc news hl hnews (by omega) (by omega) (growslice_fits (by omega) hbytes)
   exact ⟨_, _, _, hr, grown c (by omega), hk _, .inr (Nat.le_refl _)⟩
theorem wpList_append_sl {P : Program} {w : World} {ops : Array Oper} {rest : List Oper} {o : Oper} {A : Act} {Q : Exit → Act → World → Prop} (hgd : o.guard = none) (s x : Operand) (t : TypeId)
  (ho : o.op = .call { callee := .builtin .append, args := #[s, x], argTypes := #[t, t] })
  (e : TypeId) (i : TypeInfo) (z : Value) (size bytes : Nat) (ht : P.underlying t = some (.slice e)) (hi : P.info? e = some i) (hz : i.zero = some z)
  (hsize : i.size = size) (hby : i.bytes = bytes) (hzs : z.cells.size = size) (hsz : 0 < size)
  (a : Option Nat) (n c : Nat) (xs : List Value) (hs : A.eval s = sv a n c) (hown : SliceAt w e size a n c xs)
  (ad : Addr) (m cc : Nat) (news : List Value) (hx : A.eval x = .slice (some ad) m cc) (hl : news.length = m * size) (hnews : ∀ j u, news[j]? = some u → w.cell? (ad.add j) = some u) (h1 : ∀ u ∈ news, u.oneCell' = true)
  (hm : 0 < m) (hlen : n + m ≤ 140737488355328) (hbytes : (n + m) * bytes ≤ 140737488355328)
  (h : ∀ g c' w', SliceAt w' e size (some g) (n + m) c' (xs ++ news) → Keeps a.toList w w' → (a = some g ∨ w.heap.size ≤ g) → wpList P ops Q rest (A.put o.dst (.slice (some ⟨g, 0, none⟩) (n + m) c')) w') : wpList P ops Q (o :: rest) A w :=
 wpList_plain hgd fun K hK => by
  obtain ⟨g, c', w', hr, h2, h3, h4⟩ := run_append_sl (P := P) w t o.type e i z size bytes ht hi hz hsize hby hzs hsz a n c xs hown ad m cc news hl hnews h1 hm hlen hbytes
  unfold Oper.wp execOp
  simp only [ho, resolve, invoke, builtin, Sem.run_bind, Sem.run_pure, Result.andThen_ok, List.map_toArray, List.map_cons, List.map_nil, hs, hx, hr]
  exact hK _ _ (h g c' w' h2 h3 h4)
def IntsIn (w : World) (ao : Option Addr) (xs : List Int) : Prop := 0 < xs.length → ∃ b off, ao = some ⟨b, off, none⟩ ∧ ∀ j, j < xs.length → w.cell? ⟨b, off + j, none⟩ = some (.int .i64 (xs.getD j 0))
theorem Ints.to_in {E : Nat} {w : World} {b : Nat} {xs : List Int} (h : Ints E w b xs) : IntsIn w (some ⟨b, 0, none⟩) xs := fun _ => ⟨b, 0, rfl, fun j hj => by rw [Nat.zero_add, h.cell j hj]; simp [hj]⟩
theorem SliceAt.to_in {w : World} {e : Nat} {a : Option Nat} {c : Nat} {xs : List Int} {n : Nat} (h : SliceAt w e 1 a n c (xs.map (Value.int .i64))) : IntsIn w (a.map fun g => ⟨g, 0, none⟩) xs := fun h0 => by
 cases a with
 | none => exfalso; have := h.1; obtain ⟨_, h2, _⟩ := h; simp at this; omega
 | some g => exact ⟨g, 0, rfl, fun j hj => by rw [Nat.zero_add, h.cell j (by simpa using hj)]; simp [hj]⟩
theorem IntsIn.drewN {w : World} {ao : Option Addr} {xs : List Int} (h : IntsIn w ao xs) (n : Nat) : IntsIn (w.drewN n) ao xs := h
theorem take_eq_succ {xs ys : List Int} {k : Nat} (h : xs.take k = ys.take k) (h1 : k < xs.length) (h2 : k < ys.length) (h3 : xs.getD k 0 = ys.getD k 0) : xs.take (k + 1) = ys.take (k + 1) := by
 rw [List.take_succ_eq_append_getElem h1, List.take_succ_eq_append_getElem h2, h]
 simp [h1, h2] at h3
 rw [h3]
theorem same_any (ao bo : Option Addr) (c c' : Nat) (xs ys : List Int) (w : World) (hx : IntsIn w ao xs) (hy : IntsIn w bo ys) (hl : xs.length ≤ 1000000000000) (hl2 : ys.length ≤ 1000000000000) :
  Calls Tryz.prog 18 #[.slice ao xs.length c, .slice bo ys.length c'] w fun e w' => e = .returned (.bool (decide (xs = ys))) ∧ ∃ n, w' = w.drewN n := by
 obtain ⟨r, hr⟩ : ∃ r, r = decide (xs = ys) := ⟨_, rfl⟩
 rw [← hr]
 have HR := gI hr
 clear hr
 have HX := gI hx
 have HY := gI hy
 clear hx hy
 by_cases hne : xs.length = ys.length
 ·have HNE := gI hne
  rw [← hne]
  clear hne
  go_enter Tryz.func18, Tryz.ntmps18
  go_wp2
  go_loopw [5] (fun i wr => ∃ k : Nat, k ≤ xs.length ∧ i = .int .i64 k ∧ xs.take k = ys.take k ∧ ∃ q, wr = w.drewN q) (fun i _ => xs.length - (intOf i).toNat)
  case atStart => exact ⟨0, Nat.zero_le _, rfl, rfl, 0, rfl⟩
  case round =>
   obtain ⟨k, hk, rfl, ht, q, rfl⟩ := hrel
   have HT := gI ht
   clear ht
   by_cases hlt : k < xs.length
   ·obtain ⟨b, off, rfl, hcx⟩ := HX.out (by omega)
    obtain ⟨b2, off2, rfl, hcy⟩ := HY.out (by have := HNE.out; omega)
    have dx := hcx k hlt
    have dy := hcy k (by have := HNE.out; omega)
    obtain ⟨x, hx⟩ : ∃ x, x = xs.getD k 0 := ⟨_, rfl⟩
    obtain ⟨y, hy⟩ : ∃ y, y = ys.getD k 0 := ⟨_, rfl⟩
    rw [← hx] at dx
    rw [← hy] at dy
    have HXX := gI hx
    have HYY := gI hy
    clear hcx hcy hx hy
    by_cases hxy : x = y
    ·have hb : (x != y) = false := by simp [hxy]
     have HXY := gI hxy
     clear hxy
     go_wp2
     go_quiet (fail)
     go_wp2
     go_roundw
     case rel => exact ⟨k + 1, by omega, by go_num, take_eq_succ HT.out hlt (by have := HNE.out; omega) (by rw [← HXX.out, ← HYY.out]; exact HXY.out), _, rfl⟩
     case measure => simp [intOf]; omega
    ·have hb : (x != y) = true := by simp [hxy]
     have hrf : r = false := by
      rw [HR.out]
      simp only [decide_eq_false_iff_not]
      rintro rfl
      exact hxy (by rw [HXX.out, HYY.out])
     have HRF := gI hrf
     clear hxy hrf
     go_wp2
     go_quiet (fail)
     go_wp2
     go_ret
     exact ⟨by rw [HRF.out]; rfl, q + nq, by rw [World.drewN_drewN]⟩
   ·have hrt : r = true := by
     rw [HR.out]
     have h1 := HT.out
     rw [List.take_of_length_le (by omega), List.take_of_length_le (by have := HNE.out; omega)] at h1
     simp [h1]
    have HRT := gI hrt
    clear hrt
    go_wp2
    go_ret
    exact ⟨by rw [HRT.out]; rfl, _, rfl⟩
 ·have hb : ((xs.length : Int) != (ys.length : Int)) = true := by simp; omega
  have hrf : r = false := by
   rw [HR.out]
   simp only [decide_eq_false_iff_not]
   rintro rfl
   exact hne rfl
  have HRF := gI hrf
  clear hne hrf
  go_enter Tryz.func18, Tryz.ntmps18
  go_wp2
  go_ret
  exact ⟨by rw [HRF.out]; rfl, 0, rfl⟩
def aroundF (x n : Int) : Int := (if x < 0 then -(x + 1) else x) % n
theorem around_any (x n : Int) (w : World) (hn : 0 < n) (hx : -9223372036854775808 ≤ x ∧ x ≤ 9223372036854775807) :
  Calls Tryz.prog 5 #[.int .i64 x, .int .i64 n] w fun e w' => e = .returned (.int .i64 (aroundF x n)) ∧ w = w' := by
 obtain ⟨r, hr⟩ : ∃ r, r = aroundF x n := ⟨_, rfl⟩
 rw [← hr]
 have HR := gI hr
 clear hr
 obtain ⟨x0, x1⟩ := hx
 by_cases h : x < 0
 ·go_enter Tryz.func5, Tryz.ntmps5
  go_wp2
  go_ret
  refine ⟨?_, rfl⟩
  rw [HR.out, aroundF, if_pos h]
  show Ending.returned (.int .i64 (-(x + 1).tmod n)) = _
  rw [← Int.neg_tmod, Int.tmod_eq_emod_of_nonneg (by omega)]
 ·go_enter Tryz.func5, Tryz.ntmps5
  go_wp2
  go_ret
  exact ⟨by rw [HR.out, aroundF, if_neg (by omega)]; rfl, rfl⟩
def I64 (x : Int) : Prop := -9223372036854775808 ≤ x ∧ x ≤ 9223372036854775807
theorem i64_of_wf {x : Int} (h : (Lit.int .i64 x).wf = true) : I64 x := by
 simp [Lit.wf] at h
 have e : IntKind.i64.min = -9223372036854775808 := rfl
 rw [e] at h
 exact h
theorem in_of_row {w : World} {a : Option Addr} {len cap : Nat} {zs : List Int}
  (h : (a = none ∧ len = 0 ∧ cap = 0 ∧ zs = []) ∨ ∃ x, a = some x ∧ len ≤ cap ∧ cap ≤ maxLen ∧ zs.length = cap ∧ (∀ i, i < zs.length → w.cell? (x.add i) = some (.int .i64 (zs.getD i 0))) ∧ ∀ n ∈ zs, (Lit.int .i64 n).wf = true) :
  (zs.take len).length = len ∧ IntsIn w a (zs.take len) ∧ (∀ x ∈ zs.take len, I64 x) ∧ len ≤ 9223372036854775807 := by
 rcases h with ⟨rfl, rfl, rfl, rfl⟩ | ⟨x, rfl, hl, hm, hz, hc, hw⟩
 ·exact ⟨rfl, fun h => by simp at h, by simp, by omega⟩
 ·refine ⟨by simp; omega, fun h0 => ?_, fun y hy => i64_of_wf (hw y (List.mem_of_mem_take hy)), by unfold maxLen at hm; omega⟩
  simp at h0
  have h1 := hc 0 (by omega)
  obtain ⟨b, off, sp⟩ := x
  have hs : sp = none := by
   cases sp with
   | none => rfl
   | some s => simp [Addr.add, World.cell?] at h1; split at h1 <;> simp at h1
  subst hs
  refine ⟨b, off, rfl, fun j hj => ?_⟩
  simp at hj
  have h2 := hc j (by omega)
  have hadd : (⟨b, off, none⟩ : Addr).add j = ⟨b, off + j, none⟩ := by unfold Addr.add; split <;> simp_all
  rw [hadd] at h2
  have hj2 : j < zs.length := by omega
  rw [h2]
  simp [hj, hj2]
abbrev Tri := Int × Int × Int
def z0 : Tri := (0, 0, 0)
def swp (xs : List Tri) (i j : Nat) : List Tri := (xs.set i (xs.getD j z0)).set j (xs.getD i z0)
theorem swp_length (xs : List Tri) (i j : Nat) : (swp xs i j).length = xs.length := by simp [swp]
theorem swp_get (xs : List Tri) (i j k : Nat) (hi : i < xs.length) (hj : j < xs.length) : (swp xs i j).getD k z0 = if k = j then xs.getD i z0 else if k = i then xs.getD j z0 else xs.getD k z0 := by
 simp only [swp, List.getD_eq_getElem?_getD, List.getElem?_set]
 by_cases h1 : j = k
 ·subst h1; simp [hj]
 ·by_cases h2 : i = k
  ·subst h2; simp [h1, hi, Ne.symm h1]
  ·simp [h1, h2, Ne.symm h1, Ne.symm h2]
theorem ext_getD {xs ys : List Tri} (hl : xs.length = ys.length) (h : ∀ k, k < xs.length → xs.getD k z0 = ys.getD k z0) : xs = ys := by
 apply List.ext_getElem hl
 intro i h1 h2
 have := h i h1
 simpa [List.getD_eq_getElem?_getD, h1, h2] using this
theorem swp_comm (xs : List Tri) (i j : Nat) (hi : i < xs.length) (hj : j < xs.length) : swp xs i j = swp xs j i :=
 ext_getD (by rw [swp_length, swp_length]) (fun k _ => by
  rw [swp_get _ _ _ _ hi hj, swp_get _ _ _ _ hj hi]
  by_cases h1 : k = j
  ·by_cases h2 : k = i
   ·rw [if_pos h1, if_pos h2, ← h1, ← h2]
   ·rw [if_pos h1, if_neg h2, if_pos h1]
  ·rw [if_neg h1, if_neg h1])
theorem swp_perm (xs : List Tri) (i j : Nat) (hi : i < xs.length) (hj : j < xs.length) : (swp xs i j).Perm xs := by
 by_cases hij : i = j
 ·subst hij
  have : swp xs i i = xs := ext_getD (swp_length _ _ _) (fun k _ => by rw [swp_get _ _ _ _ hi hi]; split <;> simp_all)
  rw [this]
 rw [List.perm_iff_count]
 intro a
 unfold swp
 rw [List.count_set (by simpa using hj), List.count_set hi]
 have e1 : (xs.set i (xs.getD j z0))[j]'(by simpa using hj) = xs[j] := by rw [List.getElem_set_ne hij]
 simp only [List.getD_eq_getElem?_getD, List.getElem?_eq_getElem hi, List.getElem?_eq_getElem hj, Option.getD_some]
 have p1 : 0 < List.count xs[i] xs := List.count_pos_iff.2 (by simp)
 have p2 : 0 < List.count xs[j] xs := List.count_pos_iff.2 (by simp)
 by_cases h1 : xs[i] = a <;> by_cases h2 : xs[j] = a
 ·subst h1; simp_all
 ·subst h1; simp_all
 ·subst h2; simp_all
 ·simp_all
def Desc (key : Tri → Int) (xs : List Tri) (a b : Nat) : Prop := ∀ p q, a ≤ p → p < q → q < b → key (xs.getD q z0) ≤ key (xs.getD p z0)
structure Turned (xs ys : List Tri) (a b : Nat) : Prop where
 perm : ys.Perm xs
 out : ∀ k, k < a ∨ b ≤ k → ys.getD k z0 = xs.getD k z0
theorem Turned.refl (xs : List Tri) (a b : Nat) : Turned xs xs a b := ⟨.refl _, fun _ _ => rfl⟩
theorem Turned.len {xs ys : List Tri} {a b : Nat} (h : Turned xs ys a b) : ys.length = xs.length := h.perm.length_eq
theorem Turned.trans {xs ys zs : List Tri} {a b : Nat} (h : Turned xs ys a b) (k : Turned ys zs a b) : Turned xs zs a b :=
 ⟨k.perm.trans h.perm, fun i hi => (k.out i hi).trans (h.out i hi)⟩
theorem Turned.mono {xs ys : List Tri} {a b a' b' : Nat} (h : Turned xs ys a b) (ha : a' ≤ a) (hb : b ≤ b') : Turned xs ys a' b' :=
 ⟨h.perm, fun i hi => h.out i (by omega)⟩
theorem Turned.swp (xs : List Tri) (i j a b : Nat) (hi : i < xs.length) (hj : j < xs.length) (h1 : a ≤ i) (h2 : i < b) (h3 : a ≤ j) (h4 : j < b) : Turned xs (swp xs i j) a b :=
 ⟨swp_perm _ _ _ hi hj, fun k hk => by rw [swp_get _ _ _ _ hi hj, if_neg (by omega), if_neg (by omega)]⟩
theorem Turned.desc {key : Tri → Int} {xs ys : List Tri} {a b c d : Nat} (h : Turned xs ys a b) (hd : Desc key xs c d) (ho : d ≤ a ∨ b ≤ c) : Desc key ys c d := by
 intro p q h1 h2 h3
 rw [h.out p (by omega), h.out q (by omega)]
 exact hd p q h1 h2 h3
structure Sink (key : Tri → Int) (xs : List Tri) (a j i : Nat) : Prop where
 rest : ∀ p q, a ≤ p → p < q → q ≤ i → p ≠ j → q ≠ j → key (xs.getD q z0) ≤ key (xs.getD p z0)
 less : ∀ q, j < q → q ≤ i → key (xs.getD q z0) < key (xs.getD j z0)
theorem Sink.start {key : Tri → Int} {xs : List Tri} {a i : Nat} (h : Desc key xs a i) : Sink key xs a i i :=
 ⟨fun p q h1 h2 h3 _ h5 => h p q h1 h2 (by omega), fun q h1 h2 => by omega⟩
theorem Sink.step {key : Tri → Int} {xs : List Tri} {a j i : Nat} (h : Sink key xs a (j + 1) i) (hi : i < xs.length) (ha : a ≤ j) (hj : j + 1 ≤ i) (hk : key (xs.getD j z0) < key (xs.getD (j + 1) z0)) : Sink key (swp xs j (j + 1)) a j i := by
 constructor
 ·intro p q h1 h2 h3 h4 h5
  rw [swp_get _ _ _ _ (by omega) (by omega), swp_get _ _ _ _ (by omega) (by omega)]
  by_cases e1 : p = j + 1
  ·rw [if_pos e1, if_neg (by omega), if_neg h5]
   exact h.rest j q ha (by omega) h3 (by omega) (by omega)
  ·rw [if_neg e1, if_neg h4]
   by_cases e2 : q = j + 1
   ·rw [if_pos e2]
    exact h.rest p j h1 (by omega) (by omega) e1 (by omega)
   ·rw [if_neg e2, if_neg h5]
    exact h.rest p q h1 h2 h3 e1 e2
 ·intro q h1 h2
  rw [swp_get _ _ _ _ (by omega) (by omega), swp_get _ _ _ _ (by omega) (by omega)]
  rw [if_neg (show ¬ j = j + 1 by omega), if_pos rfl]
  by_cases e2 : q = j + 1
  ·rw [if_pos e2]; exact hk
  ·rw [if_neg e2, if_neg (by omega)]
   exact h.less q (by omega) h2
theorem Sink.done {key : Tri → Int} {xs : List Tri} {a j i : Nat} (h : Sink key xs a j i) (hj : j ≤ i) (hk : j = a ∨ ∃ j', j = j' + 1 ∧ a ≤ j' ∧ key (xs.getD (j' + 1) z0) ≤ key (xs.getD j' z0)) : Desc key xs a (i + 1) := by
 intro p q h1 h2 h3
 by_cases e1 : p = j
 ·subst e1; exact Int.le_of_lt (h.less q h2 (by omega))
 ·by_cases e2 : q = j
  ·subst e2
   rcases hk with rfl | ⟨j', rfl, h4, h5⟩
   ·omega
   ·by_cases e3 : p = j'
    ·subst e3; exact h5
    ·exact Int.le_trans h5 (h.rest p j' h1 (by omega) (by omega) e1 (by omega))
  ·exact h.rest p q h1 h2 (by omega) e1 e2
end Go.Proofs.YtkekenaamnhbhaaGreat
