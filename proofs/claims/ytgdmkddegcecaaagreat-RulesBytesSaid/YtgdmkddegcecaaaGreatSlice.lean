/- Slices that the walk knows by their block: a nil one, or a whole block from its head on; append to them. No condition: every lemma says its own. -/
import Derived.Test.YtgdmkddegcecaaaGreatBase
import Derived.Laws.AppendOwn
namespace Go.Proofs.YtgdmkddegcecaaaGreat
open Go.RowKit

/-- The value of a slice that is nil or starts at the head of block g. -/
def sv (a : Option Nat) (n c : Nat) : Value := .slice (a.map fun g => ⟨g, 0, none⟩) n c

/-- A slice of n elements (type e, 'size' cells each) whose cells are xs: nil, or a block that is its own, from its head on. -/
def SliceAt (w : World) (e size : Nat) (a : Option Nat) (n c : Nat) (xs : List Value) : Prop :=
  xs.length = n * size ∧
  match a with
  | none => n = 0 ∧ c = 0
  | some g => ∃ cur : Array Value, w.heap[g]? = some (.cells cur e (0, 0)) ∧ n ≤ c ∧ c ≤ maxLen ∧ cur.size = c * size ∧ cur.toList.take (n * size) = xs

theorem SliceAt.nil (w : World) (e size : Nat) : SliceAt w e size none 0 0 [] := ⟨by simp, rfl, rfl⟩
theorem SliceAt.owns {w : World} {e size : Nat} {a : Option Nat} {n c : Nat} {xs : List Value} (h : SliceAt w e size a n c xs) : w.ownsRow 0 e size (sv a n c) n xs := by
  refine ⟨h.1, ?_⟩
  cases a with
  | none => obtain ⟨h1, rfl, rfl⟩ := h; exact .inl ⟨rfl, rfl⟩
  | some g => obtain ⟨h1, cur, h2, h3, h4, h5, h6⟩ := h; exact .inr ⟨g, c, cur, rfl, Nat.zero_le _, h2, h3, h4, h5, h6⟩
theorem SliceAt.lt {w : World} {e size : Nat} {g : Nat} {n c : Nat} {xs : List Value} (h : SliceAt w e size (some g) n c xs) : g < w.heap.size := by
  obtain ⟨_, cur, h2, _⟩ := h; exact lt_of_block h2
theorem SliceAt.keep {S : List Nat} {w w' : World} {e size : Nat} {a : Option Nat} {n c : Nat} {xs : List Value} (h : SliceAt w e size a n c xs) (k : Keeps S w w') (hs : ∀ g, a = some g → g ∉ S) : SliceAt w' e size a n c xs := by
  refine ⟨h.1, ?_⟩
  cases a with
  | none => exact h.2
  | some g => obtain ⟨h1, cur, h2, h3⟩ := h; exact ⟨cur, k.heap h2 (hs g rfl), h3⟩
theorem SliceAt.drewN {w : World} {e size : Nat} {a : Option Nat} {n c : Nat} {xs : List Value} (h : SliceAt w e size a n c xs) (k : Nat) : SliceAt (w.drewN k) e size a n c xs := h.keep ((Keeps.refl [] w).drewN k) (by simp)
theorem SliceAt.alloc {w : World} {e size : Nat} {a : Option Nat} {n c : Nat} {xs : List Value} (h : SliceAt w e size a n c xs) (o : Obj) : SliceAt (w.alloc o) e size a n c xs := h.keep ((Keeps.refl [] w).alloc o) (by simp)
theorem SliceAt.cell {w : World} {e size : Nat} {g : Nat} {n c : Nat} {xs : List Value} (h : SliceAt w e size (some g) n c xs) (i : Nat) (hi : i < xs.length) : w.cell? ⟨g, i, none⟩ = some xs[i] := by
  obtain ⟨h1, cur, h2, h3, h4, h5, h6⟩ := h
  subst h6
  simp at hi
  simp [World.cell?, h2]
theorem SliceAt.fz {w : World} {e size : Nat} {g : Nat} {n c : Nat} {xs : List Value} (h : SliceAt w e size (some g) n c xs) (i : Nat) : w.frozen? ⟨g, i, none⟩ = false := by
  obtain ⟨h1, cur, h2, _⟩ := h
  simp [World.frozen?, h2]
theorem SliceAt.of_row {w : World} {e size : Nat} {g : Nat} {cur : Array Value} {c : Nat} (h : w.heap[g]? = some (.cells cur e (0, 0))) (hc : cur.size = c * size) (hm : c ≤ maxLen) : SliceAt w e size (some g) c c cur.toList :=
  ⟨by simp [hc], cur, h, Nat.le_refl _, hm, hc, by rw [List.take_of_length_le (by simp [hc])]⟩
theorem SliceAt.of_ints {w : World} {e : Nat} {g : Nat} {zs : List Int} (h : Ints e w g zs) (hm : zs.length ≤ maxLen) : SliceAt w e 1 (some g) zs.length zs.length (zs.map (Value.int .i64)) := by
  simpa using SliceAt.of_row (size := 1) h (by simp) hm

/-- The new block of a literal that is appended. -/
theorem news_row (w : World) (xs : List Value) (t : Nat) : ∀ j u, xs[j]? = some u → (w.alloc (.cells xs.toArray t)).cell? ((⟨w.heap.size, 0, none⟩ : Addr).add j) = some u := by
  intro j u hj
  have hadd : (⟨w.heap.size, 0, none⟩ : Addr).add j = ⟨w.heap.size, j, none⟩ := by unfold Addr.add; split <;> simp_all
  rw [hadd, cell_of_row _ _ _ _ _ _ (heap_alloc_new w _)]
  simpa using hj

theorem news_row' (w : World) (xs : List Value) (t : Nat) (m : Nat) (hm : m = w.heap.size) : ∀ j u, xs[j]? = some u → (w.alloc (.cells xs.toArray t)).cell? ((⟨m, 0, none⟩ : Addr).add j) = some u := by
  subst hm; exact news_row w xs t

theorem int_one (x : Int) : ∀ u ∈ [Value.int .i64 x], u.oneCell' = true := by
  intro u hu; simp at hu; subst hu; rfl

theorem mem_ownBlock {a : Option Nat} {n c k : Nat} (h : some k ≠ (sv a n c).ownBlock) : k ∉ a.toList := by
  cases a with
  | none => simp
  | some g => simpa [sv, Value.ownBlock] using h

/-- append of at least one element to a slice of the call's own: where its block lies afterwards. -/
theorem run_append_sl {P : Program} (w : World) (t ty e : TypeId) (i : TypeInfo) (z : Value) (size bytes : Nat) (ht : P.underlying t = some (.slice e)) (hi : P.info? e = some i) (hz : i.zero = some z)
    (hsize : i.size = size) (hby : i.bytes = bytes) (hzs : z.cells.size = size) (hsz : 0 < size)
    (a : Option Nat) (n c : Nat) (xs : List Value) (hown : SliceAt w e size a n c xs)
    (ad : Addr) (m cc : Nat) (news : List Value) (hl : news.length = m * size) (hnews : ∀ j u, news[j]? = some u → w.cell? (ad.add j) = some u) (h1 : ∀ u ∈ news, u.oneCell' = true)
    (hm : 0 < m) (hlen : n + m ≤ 140737488355328) (hbytes : (n + m) * bytes ≤ 140737488355328) :
    ∃ g c' w', (Builtin.append_ #[t, t] ty #[sv a n c, .slice (some ad) m cc]).run P w = .ok (.slice (some ⟨g, 0, none⟩) (n + m) c') w' ∧ SliceAt w' e size (some g) (n + m) c' (xs ++ news) ∧ Keeps a.toList w w' ∧ (a = some g ∨ w.heap.size ≤ g) := by
  subst hsize
  subst hby
  have h63 : n + m ≤ maxLen := by unfold maxLen; omega
  have hlen2 : (xs ++ news).length = (n + m) * i.size := by rw [List.length_append, hown.1, hl, Nat.add_mul]
  have grown : ∀ (old : Nat), old < n + m →
      SliceAt (w.drew.alloc (.cells (xs.toArray ++ news.toArray ++ Builtin.zeroCells z.cells (grownCap w (n + m) old e - (n + m))) e)) e i.size (some w.heap.size) (n + m) (grownCap w (n + m) old e) (xs ++ news) := by
    intro old ho
    have hge := grownCap_ge w (n + m) old e
    have hcm : grownCap w (n + m) old e ≤ maxLen := grownCap_le_maxLen w (n + m) old e h63
    refine ⟨hlen2, _, heap_alloc_new w.drew _, hge, hcm, ?_, ?_⟩
    · simp only [Array.size_append, List.size_toArray, size_zeroCells, hzs, hown.1, hl, ← Nat.add_mul]
      congr 1
      omega
    · simp only [Array.toList_append, List.append_assoc]
      rw [← List.append_assoc, ← hlen2]
      exact List.take_left
  have hk : ∀ o, Keeps a.toList w (w.drew.alloc o) := fun o => ((Keeps.refl _ w).drew).alloc o
  cases a with
  | none =>
    obtain ⟨hx, rfl, rfl⟩ := hown
    have hx : xs = [] := List.eq_nil_of_length_eq_zero (by simpa using hx)
    subst hx
    have hr := run_append_nil (P := P) w t ty e i z ht hi hz ad m cc news hl hnews (by omega) (by omega) (by have hb := hbytes; simp only [Nat.zero_add] at hb; omega)
    have hgr := grown 0 (by omega)
    simp only [Nat.zero_add, List.nil_append, Array.empty_append] at hgr ⊢
    exact ⟨_, _, _, hr, hgr, hk _, .inr (Nat.le_refl _)⟩
  | some g =>
    obtain ⟨hx, cur, hg, hnc, hcm, hcs, htake⟩ := hown
    by_cases hroom : n + m ≤ c
    · have hfit : n * i.size + news.length ≤ cur.size := by rw [hl, hcs, ← Nat.add_mul]; exact Nat.mul_le_mul_right _ hroom
      have hr := run_append_room (P := P) w t ty e i ht hi g n c cur hg ad m cc news hl hnews h1 hroom hfit
      refine ⟨_, _, _, hr, ⟨hlen2, _, setRow_heap w g cur _ e _ hg, hroom, hcm, ?_, ?_⟩, (Keeps.refl _ w).setRow (by simp) _, .inl rfl⟩
      · simp only [List.size_toArray, List.length_append, List.length_take, List.length_drop, Array.length_toList]
        omega
      · rw [htake, ← hlen2]
        exact List.take_left
    · have hown : SliceAt w e i.size (some g) n c xs := ⟨hx, cur, hg, hnc, hcm, hcs, htake⟩
      have holds : ∀ j u, xs[j]? = some u → w.cell? ((⟨g, 0, none⟩ : Addr).add j) = some u := hown.owns.cells (g := g) rfl
      have hr := run_append_grow (P := P) w t ty e i z ht hi hz ⟨g, 0, none⟩ n c xs hx holds ad m cc news hl hnews (by omega) (by omega) (growslice_fits (by omega) hbytes)
      exact ⟨_, _, _, hr, grown c (by omega), hk _, .inr (Nat.le_refl _)⟩

theorem wpList_append_sl {P : Program} {w : World} {ops : Array Oper} {rest : List Oper} {o : Oper} {A : Act} {Q : Exit → Act → World → Prop} (hgd : o.guard = none) (s x : Operand) (t : TypeId)
    (ho : o.op = .call { callee := .builtin .append, args := #[s, x], argTypes := #[t, t] })
    (e : TypeId) (i : TypeInfo) (z : Value) (size bytes : Nat) (ht : P.underlying t = some (.slice e)) (hi : P.info? e = some i) (hz : i.zero = some z)
    (hsize : i.size = size) (hby : i.bytes = bytes) (hzs : z.cells.size = size) (hsz : 0 < size)
    (a : Option Nat) (n c : Nat) (xs : List Value) (hs : A.eval s = sv a n c) (hown : SliceAt w e size a n c xs)
    (ad : Addr) (m cc : Nat) (news : List Value) (hx : A.eval x = .slice (some ad) m cc) (hl : news.length = m * size) (hnews : ∀ j u, news[j]? = some u → w.cell? (ad.add j) = some u) (h1 : ∀ u ∈ news, u.oneCell' = true)
    (hm : 0 < m) (hlen : n + m ≤ 140737488355328) (hbytes : (n + m) * bytes ≤ 140737488355328)
    (h : ∀ g c' w', SliceAt w' e size (some g) (n + m) c' (xs ++ news) → Keeps a.toList w w' → (a = some g ∨ w.heap.size ≤ g) → wpList P ops Q rest (A.put o.dst (.slice (some ⟨g, 0, none⟩) (n + m) c')) w') : wpList P ops Q (o :: rest) A w :=
  wpList_plain hgd fun K hK => by
    obtain ⟨g, c', w', hr, h2, h3, h4⟩ := run_append_sl (P := P) w t o.type e i z size bytes ht hi hz hsize hby hzs hsz a n c xs hown ad m cc news hl hnews h1 hm hlen hbytes
    unfold Oper.wp execOp
    simp only [ho, resolve, invoke, builtin, Sem.run_bind, Sem.run_pure, Result.andThen_ok, List.map_toArray, List.map_cons, List.map_nil, hs, hx, hr]
    exact hK _ _ (h g c' w' h2 h3 h4)

end Go.Proofs.YtgdmkddegcecaaaGreat
