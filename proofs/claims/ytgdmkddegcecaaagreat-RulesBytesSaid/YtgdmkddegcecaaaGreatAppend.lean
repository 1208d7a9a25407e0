/- append in a region that draws its order; a store into a slice. No condition: every lemma says its own. -/
import Derived.Test.YtgdmkddegcecaaaGreatSlice
import Derived.Deep.RegionLawGrows
namespace Go.Proofs.YtgdmkddegcecaaaGreat
open Go.RowKit

theorem stepd_append_sl {P : Program} {ops : Array Oper} {o : Oper} {A : Act} {w : World} {K : Act → World → Prop} {Q : Exit → Act → World → Prop} {E : Prop}
    (hg : o.guard = none) (s x : Operand) (t : TypeId) (hop : o.op = Op.call { callee := Callee.builtin Builtin.append, args := #[s, x], argTypes := #[t, t] })
    (e : TypeId) (i : TypeInfo) (z : Value) (size bytes : Nat) (ht : P.underlying t = some (.slice e)) (hi : P.info? e = some i) (hz : i.zero = some z)
    (hsize : i.size = size) (hby : i.bytes = bytes) (hzs : z.cells.size = size) (hsz : 0 < size)
    (a : Option Nat) (n c : Nat) (xs : List Value) (hs : A.eval s = sv a n c) (hown : SliceAt w e size a n c xs)
    (ad : Addr) (m cc : Nat) (news : List Value) (hx : A.eval x = .slice (some ad) m cc) (hl : news.length = m * size) (hnews : ∀ j u, news[j]? = some u → w.cell? (ad.add j) = some u) (h1 : ∀ u ∈ news, u.oneCell' = true)
    (hm : 0 < m) (hlen : n + m ≤ 140737488355328) (hbytes : (n + m) * bytes ≤ 140737488355328)
    (h : ∀ g c' w', SliceAt w' e size (some g) (n + m) c' (xs ++ news) → Keeps a.toList w w' → (a = some g ∨ w.heap.size ≤ g) → K (A.put o.dst (.slice (some ⟨g, 0, none⟩) (n + m) c')) w') :
    if Region.wanted o (yielded ops A.tmps) = true then Oper.wp P o A w K Q else E := by
  have hw : Region.wanted o (yielded ops A.tmps) = true := by simp [Region.wanted, hg]
  rw [if_pos hw]
  obtain ⟨g, c', w', hr, h2, h3, h4⟩ := run_append_sl (P := P) w t o.type e i z size bytes ht hi hz hsize hby hzs hsz a n c xs hown ad m cc news hl hnews h1 hm hlen hbytes
  unfold Oper.wp execOp
  simp only [hop, resolve, invoke, builtin, Sem.run_bind, Sem.run_pure, Result.andThen_ok, List.map_toArray, List.map_cons, List.map_nil, hs, hx, hr]
  exact h g c' w' h2 h3 h4

/-- A store into a slice of one-cell elements. -/
theorem SliceAt.set {w : World} {e g n c : Nat} {xs : List Value} (h : SliceAt w e 1 (some g) n c xs) (i : Nat) (v : Value) : SliceAt (w.setCell ⟨g, i, none⟩ v) e 1 (some g) n c (xs.set i v) := by
  obtain ⟨h1, cur, h2, h3, h4, h5, h6⟩ := h
  refine ⟨by simpa using h1, _, heap_setCell_same w g i _ e v h2, h3, h4, by simpa using h5, ?_⟩
  subst h6
  simp [List.take_set]

end Go.Proofs.YtgdmkddegcecaaaGreat
