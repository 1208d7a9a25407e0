/- append of whatever many elements, none included. No condition: every lemma says its own. -/
import Derived.Test.YtgdmkddegcecaaaGreatAppend
import Derived.Test.YtgdmkddegcecaaaGreatTree
namespace Go.Proofs.YtgdmkddegcecaaaGreat
open Go.RowKit

theorem run_append_zero {P : Program} (w : World) (t ty e : TypeId) (i : TypeInfo) (ht : P.underlying t = some (.slice e)) (hi : P.info? e = some i) (base : Option Addr) (n c : Nat) (xa : Option Addr) (cc : Nat) (hn : n ≤ c) :
    (Builtin.append_ #[t, t] ty #[.slice base n c, .slice xa 0 cc]).run P w = .ok (.slice base n c) w := by
  have hfc : (Builtin.firstCells i.size 0 (.slice xa 0 cc)).run P w = .ok #[] w := by
    cases xa with
    | none => simp [Builtin.firstCells]
    | some a => simpa using run_firstCells_some (P := P) (w := w) i.size 0 a 0 cc [] (by simp) (by simp)
  have hst : ∀ (a : Addr), (storeCells a []).run P w = .ok () w := fun a => by simp [storeCells]
  cases base with
  | none => simp [Builtin.append_, run_underlying ht, typeInfo, hi, hfc, Builtin.lenOf, hn, sizeOf]
  | some a => simp [Builtin.append_, run_underlying ht, typeInfo, hi, hfc, Builtin.lenOf, hn, hst, sizeOf]

/-- append to a slice of the call's own, of whatever slice whose cells are known. -/
theorem run_append_any {P : Program} (w : World) (t ty e : TypeId) (i : TypeInfo) (z : Value) (size bytes : Nat) (ht : P.underlying t = some (.slice e)) (hi : P.info? e = some i) (hz : i.zero = some z)
    (hsize : i.size = size) (hby : i.bytes = bytes) (hzs : z.cells.size = size) (hsz : 0 < size)
    (a : Option Nat) (n c : Nat) (xs : List Value) (hown : SliceAt w e size a n c xs)
    (xa : Option Addr) (m cc : Nat) (news : List Value) (hl : news.length = m * size) (hnews : 0 < m → ∃ ad, xa = some ad ∧ ∀ j u, news[j]? = some u → w.cell? (ad.add j) = some u) (h1 : ∀ u ∈ news, u.oneCell' = true)
    (hlen : n + m ≤ 140737488355328) (hbytes : (n + m) * bytes ≤ 140737488355328) :
    ∃ a' c' w', (Builtin.append_ #[t, t] ty #[sv a n c, .slice xa m cc]).run P w = .ok (sv a' (n + m) c') w' ∧ SliceAt w' e size a' (n + m) c' (xs ++ news) ∧ Keeps a.toList w w' ∧ (a' = a ∨ ∃ g, a' = some g ∧ w.heap.size ≤ g) := by
  by_cases hm : m = 0
  · subst hm
    have hx : news = [] := List.eq_nil_of_length_eq_zero (by simpa using hl)
    subst hx
    have hnc : n ≤ c := by
      cases a with
      | none => obtain ⟨_, h2, h3⟩ := hown; omega
      | some g => obtain ⟨_, cur, _, h3, _⟩ := hown; exact h3
    exact ⟨a, c, w, run_append_zero w t ty e i ht hi _ n c xa cc hnc, by simpa using hown, Keeps.refl _ _, .inl rfl⟩
  · obtain ⟨ad, rfl, hc⟩ := hnews (by omega)
    obtain ⟨g, c', w', hr, h2, h3, h4⟩ := run_append_sl (P := P) w t ty e i z size bytes ht hi hz hsize hby hzs hsz a n c xs hown ad m cc news hl hc h1 (by omega) hlen hbytes
    refine ⟨some g, c', w', hr, h2, h3, ?_⟩
    rcases h4 with h | h
    · exact .inl h.symm
    · exact .inr ⟨g, rfl, h⟩

theorem wpList_append_any {P : Program} {w : World} {ops : Array Oper} {rest : List Oper} {o : Oper} {A : Act} {Q : Exit → Act → World → Prop} (hgd : o.guard = none) (s x : Operand) (t : TypeId)
    (ho : o.op = .call { callee := .builtin .append, args := #[s, x], argTypes := #[t, t] })
    (e : TypeId) (i : TypeInfo) (z : Value) (size bytes : Nat) (ht : P.underlying t = some (.slice e)) (hi : P.info? e = some i) (hz : i.zero = some z)
    (hsize : i.size = size) (hby : i.bytes = bytes) (hzs : z.cells.size = size) (hsz : 0 < size)
    (a : Option Nat) (n c : Nat) (xs : List Value) (hs : A.eval s = sv a n c) (hown : SliceAt w e size a n c xs)
    (xa : Option Addr) (m cc : Nat) (news : List Value) (hx : A.eval x = .slice xa m cc) (hl : news.length = m * size) (hnews : 0 < m → ∃ ad, xa = some ad ∧ ∀ j u, news[j]? = some u → w.cell? (ad.add j) = some u) (h1 : ∀ u ∈ news, u.oneCell' = true)
    (hlen : n + m ≤ 140737488355328) (hbytes : (n + m) * bytes ≤ 140737488355328)
    (h : ∀ a' c' w', SliceAt w' e size a' (n + m) c' (xs ++ news) → Keeps a.toList w w' → (a' = a ∨ ∃ g, a' = some g ∧ w.heap.size ≤ g) → wpList P ops Q rest (A.put o.dst (sv a' (n + m) c')) w') : wpList P ops Q (o :: rest) A w :=
  wpList_plain hgd fun K hK => by
    obtain ⟨a', c', w', hr, h2, h3, h4⟩ := run_append_any (P := P) w t o.type e i z size bytes ht hi hz hsize hby hzs hsz a n c xs hown xa m cc news hl hnews h1 hlen hbytes
    unfold Oper.wp execOp
    simp only [ho, resolve, invoke, builtin, Sem.run_bind, Sem.run_pure, Result.andThen_ok, List.map_toArray, List.map_cons, List.map_nil, hs, hx, hr]
    exact hK _ _ (h a' c' w' h2 h3 h4)

theorem stepd_append_any {P : Program} {ops : Array Oper} {o : Oper} {A : Act} {w : World} {K : Act → World → Prop} {Q : Exit → Act → World → Prop} {E : Prop}
    (hg : o.guard = none) (s x : Operand) (t : TypeId) (hop : o.op = Op.call { callee := Callee.builtin Builtin.append, args := #[s, x], argTypes := #[t, t] })
    (e : TypeId) (i : TypeInfo) (z : Value) (size bytes : Nat) (ht : P.underlying t = some (.slice e)) (hi : P.info? e = some i) (hz : i.zero = some z)
    (hsize : i.size = size) (hby : i.bytes = bytes) (hzs : z.cells.size = size) (hsz : 0 < size)
    (a : Option Nat) (n c : Nat) (xs : List Value) (hs : A.eval s = sv a n c) (hown : SliceAt w e size a n c xs)
    (xa : Option Addr) (m cc : Nat) (news : List Value) (hx : A.eval x = .slice xa m cc) (hl : news.length = m * size) (hnews : 0 < m → ∃ ad, xa = some ad ∧ ∀ j u, news[j]? = some u → w.cell? (ad.add j) = some u) (h1 : ∀ u ∈ news, u.oneCell' = true)
    (hlen : n + m ≤ 140737488355328) (hbytes : (n + m) * bytes ≤ 140737488355328)
    (h : ∀ a' c' w', SliceAt w' e size a' (n + m) c' (xs ++ news) → Keeps a.toList w w' → (a' = a ∨ ∃ g, a' = some g ∧ w.heap.size ≤ g) → K (A.put o.dst (sv a' (n + m) c')) w') :
    if Region.wanted o (yielded ops A.tmps) = true then Oper.wp P o A w K Q else E := by
  have hw : Region.wanted o (yielded ops A.tmps) = true := by simp [Region.wanted, hg]
  rw [if_pos hw]
  obtain ⟨a', c', w', hr, h2, h3, h4⟩ := run_append_any (P := P) w t o.type e i z size bytes ht hi hz hsize hby hzs hsz a n c xs hown xa m cc news hl hnews h1 hlen hbytes
  unfold Oper.wp execOp
  simp only [hop, resolve, invoke, builtin, Sem.run_bind, Sem.run_pure, Result.andThen_ok, List.map_toArray, List.map_cons, List.map_nil, hs, hx, hr]
  exact h a' c' w' h2 h3 h4

/-- Nodes as the source of an append. -/
theorem NodesIn.src {w : World} {ka : Option Addr} {kc : Nat} {kids : List MRe} (h : NodesIn w ka kc kids) : 0 < kids.length → ∃ ad, ka = some ad ∧ ∀ j u, (flatK kids)[j]? = some u → w.cell? (ad.add j) = some u := fun h0 => by
  obtain ⟨b, off, h1, _, h2⟩ := h.flat h0
  exact ⟨⟨b, off, none⟩, h1, fun j u hu => by rw [add_none]; exact h2 j u hu⟩
theorem SpansIn.src {w : World} {ka : Option Addr} {kc : Nat} {set : List (Int × Int)} (h : SpansIn w ka kc set) : 0 < set.length → ∃ ad, ka = some ad ∧ ∀ j u, (flatP set)[j]? = some u → w.cell? (ad.add j) = some u := fun h0 => by
  obtain ⟨b, off, h1, _, h2⟩ := h.flat h0
  exact ⟨⟨b, off, none⟩, h1, fun j u hu => by rw [add_none]; exact h2 j u hu⟩

end Go.Proofs.YtgdmkddegcecaaaGreat
