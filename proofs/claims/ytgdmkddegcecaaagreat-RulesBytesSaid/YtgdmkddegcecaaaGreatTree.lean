/- Trees of patterns, plain and in memory. No condition: every lemma says its own. -/
import Derived.Test.YtgdmkddegcecaaaGreatSlice
namespace Go.Proofs.YtgdmkddegcecaaaGreat
open Go.RowKit

/-- A tree. -/
inductive Tree where
  | node (op : Int) (set : List (Int × Int)) (kids : List Tree) (mn mx mode n : Int) (neg : Bool)

/-- A tree in memory: with the places of its spans and of its kids. -/
inductive MRe where
  | node (op : Int) (sa : Option Addr) (sc : Nat) (set : List (Int × Int)) (ka : Option Addr) (kc : Nat) (kids : List MRe) (mn mx mode n : Int) (neg : Bool)

mutual
def MRe.tree : MRe → Tree
  | .node op _ _ set _ _ kids mn mx mode n neg => .node op set (MRe.trees kids) mn mx mode n neg
def MRe.trees : List MRe → List Tree
  | [] => []
  | k :: ks => k.tree :: MRe.trees ks
end
theorem MRe.trees_eq (l : List MRe) : MRe.trees l = l.map MRe.tree := by
  induction l with
  | nil => rfl
  | cons k ks ih => simp [MRe.trees, ih]
theorem MRe.trees_length (l : List MRe) : (MRe.trees l).length = l.length := by simp [MRe.trees_eq]

namespace Tree
def op : Tree → Int | .node op _ _ _ _ _ _ _ => op
def set : Tree → List (Int × Int) | .node _ set _ _ _ _ _ _ => set
def kids : Tree → List Tree | .node _ _ kids _ _ _ _ _ => kids
def mn : Tree → Int | .node _ _ _ mn _ _ _ _ => mn
def mx : Tree → Int | .node _ _ _ _ mx _ _ _ => mx
def mode : Tree → Int | .node _ _ _ _ _ mode _ _ => mode
def n : Tree → Int | .node _ _ _ _ _ _ n _ => n
def neg : Tree → Bool | .node _ _ _ _ _ _ _ neg => neg
/-- The empty tree. -/
def nil : Tree := .node 0 [] [] 0 0 0 0 false
mutual
def bulk : Tree → Nat
  | .node _ set kids _ _ _ _ _ => 1 + set.length + bulks kids
def bulks : List Tree → Nat
  | [] => 0
  | k :: ks => k.bulk + bulks ks
end
theorem bulks_mem {k : Tree} {l : List Tree} (h : k ∈ l) : k.bulk ≤ bulks l := by
  induction l with
  | nil => simp at h
  | cons x xs ih =>
    rcases List.mem_cons.1 h with rfl | h
    · simp [bulks]
    · have := ih h; simp only [bulks]; omega
theorem bulk_pos (t : Tree) : 1 ≤ t.bulk := by cases t; simp only [bulk]; omega
theorem length_le_bulks (l : List Tree) : l.length ≤ bulks l := by
  induction l with
  | nil => simp [bulks]
  | cons x xs ih => have := bulk_pos x; simp only [List.length_cons, bulks]; omega
theorem bulks_append (a b : List Tree) : bulks (a ++ b) = bulks a + bulks b := by
  induction a with
  | nil => simp [bulks]
  | cons x xs ih => simp only [List.cons_append, bulks, ih]; omega
theorem bulks_take_drop (l : List Tree) (i : Nat) : bulks l = bulks (l.take i) + bulks (l.drop i) := by
  rw [← bulks_append, List.take_append_drop]
/-- To prove something of all trees: of each tree, given it of its kids. -/
theorem induct {P : Tree → Prop} (h : ∀ op set kids mn mx mode n neg, (∀ k ∈ kids, P k) → P (.node op set kids mn mx mode n neg)) : ∀ t, P t := by
  intro t
  induction hb : t.bulk using Nat.strongRecOn generalizing t with
  | _ b ih =>
    cases t with
    | node op set kids mn mx mode n neg =>
      refine h op set kids mn mx mode n neg fun k hk => ih k.bulk ?_ k rfl
      subst hb
      have := bulks_mem hk
      simp only [bulk]
      omega
end Tree

namespace MRe
def row : MRe → List Value
  | .node op sa sc set ka kc kids mn mx mode n neg => [.int .i64 op, .slice sa set.length sc, .slice ka kids.length kc, .int .i64 mn, .int .i64 mx, .int .i64 mode, .int .i64 n, .bool neg]
def val : MRe → Value
  | .node op sa sc set ka kc kids mn mx mode n neg => .agg #[.int .i64 op, .slice sa set.length sc, .slice ka kids.length kc, .int .i64 mn, .int .i64 mx, .int .i64 mode, .int .i64 n, .bool neg]
theorem val_row (m : MRe) : m.val = .agg m.row.toArray := by cases m; rfl
theorem row_length (m : MRe) : m.row.length = 8 := by cases m; rfl
def op : MRe → Int | .node op _ _ _ _ _ _ _ _ _ _ _ => op
def set : MRe → List (Int × Int) | .node _ _ _ set _ _ _ _ _ _ _ _ => set
def kids : MRe → List MRe | .node _ _ _ _ _ _ kids _ _ _ _ _ => kids
/-- The empty tree. -/
def nil : MRe := .node 0 none 0 [] none 0 [] 0 0 0 0 false
theorem nil_tree : nil.tree = Tree.nil := rfl
theorem row_one (m : MRe) : ∀ u ∈ m.row, u.oneCell' = true := by
  cases m
  intro u hu
  simp [row] at hu
  rcases hu with rfl | rfl | rfl | rfl | rfl | rfl | rfl | rfl <;> rfl
end MRe

/-- Spans in memory. -/
structure SpansIn (w : World) (sa : Option Addr) (sc : Nat) (set : List (Int × Int)) : Prop where
  le : set.length ≤ sc
  cap : sc ≤ maxLen
  nil_ : sa = none → sc = 0
  at_ : 0 < sc → ∃ b off, sa = some ⟨b, off, none⟩ ∧ b < w.heap.size ∧ ∀ i (h : i < set.length), w.cell? ⟨b, off + i * 2, none⟩ = some (.int .i64 set[i].1) ∧ w.cell? ⟨b, off + i * 2 + 1, none⟩ = some (.int .i64 set[i].2)
/-- Nodes in memory, one behind the other. -/
structure NodesIn (w : World) (ka : Option Addr) (kc : Nat) (kids : List MRe) : Prop where
  le : kids.length ≤ kc
  cap : kc ≤ maxLen
  nil_ : ka = none → kc = 0
  at_ : 0 < kc → ∃ b off, ka = some ⟨b, off, none⟩ ∧ b < w.heap.size ∧ ∀ i (h : i < kids.length) j (hj : j < kids[i].row.length), w.cell? ⟨b, off + i * 8 + j, none⟩ = some kids[i].row[j]
/-- A tree lies in memory. -/
inductive MRe.OK (w : World) : MRe → Prop
  | mk {op sa sc set ka kc kids mn mx mode n neg} (hs : SpansIn w sa sc set) (hk : NodesIn w ka kc kids) (hr : ∀ k, k ∈ kids → MRe.OK w k) : MRe.OK w (.node op sa sc set ka kc kids mn mx mode n neg)

theorem SpansIn.keep {w w' : World} {sa : Option Addr} {sc : Nat} {set : List (Int × Int)} (h : SpansIn w sa sc set) (k : Keeps [] w w') : SpansIn w' sa sc set :=
  ⟨h.le, h.cap, h.nil_, fun h0 => by
    obtain ⟨b, off, h1, hb, h2⟩ := h.at_ h0
    exact ⟨b, off, h1, Nat.lt_of_lt_of_le hb k.size, fun i hi => ⟨k.cell (h2 i hi).1 (by simp), k.cell (h2 i hi).2 (by simp)⟩⟩⟩
theorem NodesIn.keep {w w' : World} {ka : Option Addr} {kc : Nat} {kids : List MRe} (h : NodesIn w ka kc kids) (k : Keeps [] w w') : NodesIn w' ka kc kids :=
  ⟨h.le, h.cap, h.nil_, fun h0 => by
    obtain ⟨b, off, h1, hb, h2⟩ := h.at_ h0
    exact ⟨b, off, h1, Nat.lt_of_lt_of_le hb k.size, fun i hi j hj => k.cell (h2 i hi j hj) (by simp)⟩⟩
theorem MRe.OK.keep {w w' : World} (k : Keeps [] w w') {m : MRe} (h : m.OK w) : m.OK w' := by
  induction h with
  | mk hs hk _ ih => exact .mk (hs.keep k) (hk.keep k) ih
theorem MRe.OK.spans {w : World} {op sa sc set ka kc kids mn mx mode n neg} (h : MRe.OK w (.node op sa sc set ka kc kids mn mx mode n neg)) : SpansIn w sa sc set := by cases h; assumption
theorem MRe.OK.nodes {w : World} {op sa sc set ka kc kids mn mx mode n neg} (h : MRe.OK w (.node op sa sc set ka kc kids mn mx mode n neg)) : NodesIn w ka kc kids := by cases h; assumption
theorem MRe.OK.kid {w : World} {op sa sc set ka kc kids mn mx mode n neg} (h : MRe.OK w (.node op sa sc set ka kc kids mn mx mode n neg)) {k : MRe} (hk : k ∈ kids) : k.OK w := by cases h with | mk _ _ hr => exact hr k hk
/-- Nodes in memory with all that they reach. -/
structure KidsIn (w : World) (ka : Option Addr) (kc : Nat) (kids : List MRe) : Prop where
  nodes : NodesIn w ka kc kids
  all : ∀ k ∈ kids, k.OK w
theorem KidsIn.keep {w w' : World} {ka : Option Addr} {kc : Nat} {kids : List MRe} (h : KidsIn w ka kc kids) (k : Keeps [] w w') : KidsIn w' ka kc kids := ⟨h.nodes.keep k, fun x hx => (h.all x hx).keep k⟩
theorem MRe.OK.kids {w : World} {op sa sc set ka kc kids mn mx mode n neg} (h : MRe.OK w (.node op sa sc set ka kc kids mn mx mode n neg)) : KidsIn w ka kc kids := ⟨h.nodes, fun _ hk => h.kid hk⟩
theorem MRe.OK.of {w : World} {op sa sc set ka kc kids mn mx mode n neg} (hs : SpansIn w sa sc set) (hk : KidsIn w ka kc kids) : MRe.OK w (.node op sa sc set ka kc kids mn mx mode n neg) := .mk hs hk.nodes hk.all

theorem SpansIn.nil (w : World) : SpansIn w none 0 [] := ⟨by simp, by unfold maxLen; omega, fun _ => rfl, fun h => by omega⟩
theorem NodesIn.nil (w : World) : NodesIn w none 0 [] := ⟨by simp, by unfold maxLen; omega, fun _ => rfl, fun h => by omega⟩
theorem KidsIn.nil (w : World) : KidsIn w none 0 [] := ⟨NodesIn.nil w, by simp⟩
theorem MRe.OK.nil (w : World) : MRe.nil.OK w := .of (SpansIn.nil w) (KidsIn.nil w)

/-- The eight cells of a node. -/
structure NodeAt (w : World) (b o : Nat) (op : Int) (sa : Option Addr) (ns sc : Nat) (ka : Option Addr) (nk kc : Nat) (mn mx mode n : Int) (neg : Bool) : Prop where
  c0 : w.cell? ⟨b, o, none⟩ = some (.int .i64 op)
  c1 : w.cell? ⟨b, o + 1, none⟩ = some (.slice sa ns sc)
  c2 : w.cell? ⟨b, o + 2, none⟩ = some (.slice ka nk kc)
  c3 : w.cell? ⟨b, o + 3, none⟩ = some (.int .i64 mn)
  c4 : w.cell? ⟨b, o + 4, none⟩ = some (.int .i64 mx)
  c5 : w.cell? ⟨b, o + 5, none⟩ = some (.int .i64 mode)
  c6 : w.cell? ⟨b, o + 6, none⟩ = some (.int .i64 n)
  c7 : w.cell? ⟨b, o + 7, none⟩ = some (.bool neg)
/-- A node at an address. -/
def At8 (w : World) (b o : Nat) (m : MRe) : Prop := ∀ j (hj : j < m.row.length), w.cell? ⟨b, o + j, none⟩ = some m.row[j]
theorem At8.node {w : World} {b o : Nat} {op sa sc set ka kc kids mn mx mode n neg} (h : At8 w b o (.node op sa sc set ka kc kids mn mx mode n neg)) : NodeAt w b o op sa set.length sc ka kids.length kc mn mx mode n neg :=
  ⟨h 0 (by rw [MRe.row_length]; omega), h 1 (by rw [MRe.row_length]; omega), h 2 (by rw [MRe.row_length]; omega), h 3 (by rw [MRe.row_length]; omega), h 4 (by rw [MRe.row_length]; omega), h 5 (by rw [MRe.row_length]; omega), h 6 (by rw [MRe.row_length]; omega), h 7 (by rw [MRe.row_length]; omega)⟩
theorem At8.keep {w w' : World} {b o : Nat} {m : MRe} (h : At8 w b o m) (k : Keeps [] w w') : At8 w' b o m := fun j hj => k.cell (h j hj) (by simp)
theorem NodesIn.kid {w : World} {ka : Option Addr} {kc : Nat} {kids : List MRe} (h : NodesIn w ka kc kids) (h0 : 0 < kids.length) : ∃ b off, ka = some ⟨b, off, none⟩ ∧ b < w.heap.size ∧ ∀ i (h : i < kids.length), At8 w b (off + i * 8) kids[i] := by
  obtain ⟨b, off, h1, hb, h2⟩ := h.at_ (by have := h.le; omega)
  exact ⟨b, off, h1, hb, h2⟩
theorem At8.of_block {w : World} {b : Nat} {cs : Array Value} {T : Nat} {fz : Nat × Nat} {m : MRe} (h : w.heap[b]? = some (.cells cs T fz)) (hc : cs = m.row.toArray) : At8 w b 0 m := by
  subst hc
  intro j hj
  simp [World.cell?, h, hj]

/-- The cells of nodes, one behind the other. -/
def flatK (kids : List MRe) : List Value := kids.flatMap MRe.row
theorem flatK_length (kids : List MRe) : (flatK kids).length = kids.length * 8 := by
  induction kids with
  | nil => rfl
  | cons k ks ih => simp only [flatK, List.flatMap_cons, List.length_append, MRe.row_length, List.length_cons] at ih ⊢; omega
theorem flatK_append (a b : List MRe) : flatK (a ++ b) = flatK a ++ flatK b := by simp [flatK]
theorem flatK_get (kids : List MRe) (i : Nat) (hi : i < kids.length) (j : Nat) (hj : j < kids[i].row.length) : (flatK kids)[i * 8 + j]? = some kids[i].row[j] := by
  induction kids generalizing i with
  | nil => simp at hi
  | cons k ks ih =>
    have hk := MRe.row_length k
    cases i with
    | zero =>
      have hj' : j < k.row.length := hj
      simp only [flatK, List.flatMap_cons, Nat.zero_mul, Nat.zero_add, List.getElem_cons_zero]
      rw [List.getElem?_append_left hj', List.getElem?_eq_getElem hj']
    | succ i =>
      have := ih i (by simpa using hi) hj
      simp only [flatK, List.flatMap_cons, List.getElem_cons_succ] at this ⊢
      rw [List.getElem?_append_right (by omega), hk, show (i + 1) * 8 + j - 8 = i * 8 + j by omega]
      exact this
theorem flatK_one (kids : List MRe) : ∀ u ∈ flatK kids, u.oneCell' = true := by
  intro u hu
  obtain ⟨k, _, h⟩ := List.mem_flatMap.1 hu
  exact k.row_one u h
/-- The cells of spans. -/
def flatP (set : List (Int × Int)) : List Value := set.flatMap fun s => [.int .i64 s.1, .int .i64 s.2]
theorem flatP_length (set : List (Int × Int)) : (flatP set).length = set.length * 2 := by
  induction set with
  | nil => rfl
  | cons k ks ih => simp only [flatP, List.flatMap_cons, List.length_append, List.length_cons, List.length_nil] at ih ⊢; omega
theorem flatP_append (a b : List (Int × Int)) : flatP (a ++ b) = flatP a ++ flatP b := by simp [flatP]
theorem flatP_get (set : List (Int × Int)) (i : Nat) (hi : i < set.length) : (flatP set)[i * 2]? = some (.int .i64 set[i].1) ∧ (flatP set)[i * 2 + 1]? = some (.int .i64 set[i].2) := by
  induction set generalizing i with
  | nil => simp at hi
  | cons k ks ih =>
    cases i with
    | zero => simp [flatP]
    | succ i =>
      have := ih i (by simpa using hi)
      have e : flatP (k :: ks) = Value.int .i64 k.1 :: .int .i64 k.2 :: flatP ks := rfl
      rw [e, show (i + 1) * 2 = i * 2 + 2 by omega]
      simpa using this
theorem flatP_one (set : List (Int × Int)) : ∀ u ∈ flatP set, u.oneCell' = true := by
  intro u hu
  obtain ⟨k, _, h⟩ := List.mem_flatMap.1 hu
  simp at h
  rcases h with rfl | rfl <;> rfl

theorem NodesIn.of_sl {w : World} {e : Nat} {a : Option Nat} {n c : Nat} {kids : List MRe} (h : SliceAt w e 8 a n c (flatK kids)) : NodesIn w (a.map fun g => ⟨g, 0, none⟩) c kids := by
  have hl : kids.length = n := by have := h.1; rw [flatK_length] at this; omega
  cases a with
  | none => obtain ⟨_, h2, h3⟩ := h; subst h3; exact ⟨by omega, by unfold maxLen; omega, fun _ => rfl, fun h0 => by omega⟩
  | some g =>
    have hc := h.cell
    have hb := h.lt
    obtain ⟨_, cur, h2, h3, h4, _⟩ := h
    refine ⟨by omega, h4, by simp, fun _ => ⟨g, 0, rfl, hb, fun i hi j hj => ?_⟩⟩
    have h5 := flatK_get kids i hi j hj
    obtain ⟨h6, h7⟩ := List.getElem?_eq_some_iff.1 h5
    rw [Nat.zero_add, hc _ h6, h7]
theorem SpansIn.of_sl {w : World} {e : Nat} {a : Option Nat} {n c : Nat} {set : List (Int × Int)} (h : SliceAt w e 2 a n c (flatP set)) : SpansIn w (a.map fun g => ⟨g, 0, none⟩) c set := by
  have hl : set.length = n := by have := h.1; rw [flatP_length] at this; omega
  cases a with
  | none => obtain ⟨_, h2, h3⟩ := h; subst h3; exact ⟨by omega, by unfold maxLen; omega, fun _ => rfl, fun h0 => by omega⟩
  | some g =>
    have hc := h.cell
    have hb := h.lt
    obtain ⟨_, cur, h2, h3, h4, _⟩ := h
    refine ⟨by omega, h4, by simp, fun _ => ⟨g, 0, rfl, hb, fun i hi => ?_⟩⟩
    obtain ⟨h5, h6⟩ := flatP_get set i hi
    obtain ⟨h7, h8⟩ := List.getElem?_eq_some_iff.1 h5
    obtain ⟨h9, h10⟩ := List.getElem?_eq_some_iff.1 h6
    rw [Nat.zero_add, hc _ h7, h8, hc _ h9, h10]
    exact ⟨rfl, rfl⟩
/-- A literal of nodes. -/
theorem NodesIn.of_block {w : World} {b : Nat} {cs : Array Value} {T : Nat} {fz : Nat × Nat} {kids : List MRe} (h : w.heap[b]? = some (.cells cs T fz)) (hc : cs.toList = flatK kids) (hm : kids.length ≤ maxLen) : NodesIn w (some ⟨b, 0, none⟩) kids.length kids := by
  refine ⟨Nat.le_refl _, hm, by simp, fun _ => ⟨b, 0, rfl, lt_of_block h, fun i hi j hj => ?_⟩⟩
  have h5 := flatK_get kids i hi j hj
  rw [Nat.zero_add]
  simp only [World.cell?, h]
  rw [← hc] at h5
  simpa using h5
theorem SpansIn.of_block {w : World} {b : Nat} {cs : Array Value} {T : Nat} {fz : Nat × Nat} {set : List (Int × Int)} (h : w.heap[b]? = some (.cells cs T fz)) (hc : cs.toList = flatP set) (hm : set.length ≤ maxLen) : SpansIn w (some ⟨b, 0, none⟩) set.length set := by
  refine ⟨Nat.le_refl _, hm, by simp, fun _ => ⟨b, 0, rfl, lt_of_block h, fun i hi => ?_⟩⟩
  obtain ⟨h5, h6⟩ := flatP_get set i hi
  rw [Nat.zero_add]
  simp only [World.cell?, h]
  rw [← hc] at h5 h6
  exact ⟨by simpa using h5, by simpa using h6⟩
/-- Cells of nodes, read one by one. -/
theorem NodesIn.flat {w : World} {ka : Option Addr} {kc : Nat} {kids : List MRe} (h : NodesIn w ka kc kids) (h0 : 0 < kids.length) : ∃ b off, ka = some ⟨b, off, none⟩ ∧ b < w.heap.size ∧ ∀ j u, (flatK kids)[j]? = some u → w.cell? ⟨b, off + j, none⟩ = some u := by
  obtain ⟨b, off, h1, hb, h2⟩ := h.at_ (by have := h.le; omega)
  refine ⟨b, off, h1, hb, fun j u hu => ?_⟩
  have hj : j < (flatK kids).length := (List.getElem?_eq_some_iff.1 hu).1
  rw [flatK_length] at hj
  have hi : j / 8 < kids.length := by omega
  have hr : j % 8 < kids[j / 8].row.length := by rw [MRe.row_length]; omega
  have h3 := h2 (j / 8) hi (j % 8) hr
  have h4 := flatK_get kids (j / 8) hi (j % 8) hr
  rw [show j / 8 * 8 + j % 8 = j by omega, hu] at h4
  rw [show off + j / 8 * 8 + j % 8 = off + j by omega] at h3
  rw [h3, h4]
theorem SpansIn.flat {w : World} {ka : Option Addr} {kc : Nat} {set : List (Int × Int)} (h : SpansIn w ka kc set) (h0 : 0 < set.length) : ∃ b off, ka = some ⟨b, off, none⟩ ∧ b < w.heap.size ∧ ∀ j u, (flatP set)[j]? = some u → w.cell? ⟨b, off + j, none⟩ = some u := by
  obtain ⟨b, off, h1, hb, h2⟩ := h.at_ (by have := h.le; omega)
  refine ⟨b, off, h1, hb, fun j u hu => ?_⟩
  have hj : j < (flatP set).length := (List.getElem?_eq_some_iff.1 hu).1
  rw [flatP_length] at hj
  have hi : j / 2 < set.length := by omega
  obtain ⟨h3, h4⟩ := h2 (j / 2) hi
  obtain ⟨h5, h6⟩ := flatP_get set (j / 2) hi
  rcases (show j = j / 2 * 2 ∨ j = j / 2 * 2 + 1 by omega) with e | e
  · rw [e, h5] at hu; cases hu; rw [← h3]; congr 2; omega
  · rw [e, h6] at hu; cases hu; rw [← h4]; congr 2; omega
theorem add_none (b o j : Nat) : (⟨b, o, none⟩ : Addr).add j = ⟨b, o + j, none⟩ := by unfold Addr.add; split <;> simp_all

theorem cell_new (w : World) (cs : Array Value) (T i : Nat) : (w.alloc (.cells cs T)).cell? ⟨w.heap.size, i, none⟩ = cs[i]? := by
  have h := heap_alloc_new w (.cells cs T)
  unfold World.cell?
  rw [h]
  rfl

/-- A box that holds a node. -/
theorem At8.box {w : World} {cs : Array Value} {T : Nat} {m : MRe} (h : cs.toList = m.row) : At8 (w.alloc (.cells cs T)) w.heap.size 0 m :=
  At8.of_block (heap_alloc_new w _) (by rw [← h])
theorem Keeps.a1 (w : World) (a : Obj) : Keeps [] w (w.alloc a) := (Keeps.refl [] w).alloc a
theorem Keeps.a2 (w : World) (a b : Obj) : Keeps [] w ((w.alloc a).alloc b) := (Keeps.a1 w a).alloc b
theorem Keeps.a3 (w : World) (a b c : Obj) : Keeps [] w (((w.alloc a).alloc b).alloc c) := (Keeps.a2 w a b).alloc c
theorem Keeps.a4 (w : World) (a b c d : Obj) : Keeps [] w ((((w.alloc a).alloc b).alloc c).alloc d) := (Keeps.a3 w a b c).alloc d

/-- The nodes from place i on. -/
theorem NodesIn.drop {w : World} {b off kc : Nat} {kids : List MRe} (h : NodesIn w (some ⟨b, off, none⟩) kc kids) (i : Nat) (hi : i ≤ kids.length) : NodesIn w (if kc = i then some ⟨b, off, none⟩ else some ⟨b, off + i * 8, none⟩) (kc - i) (kids.drop i) := by
  have hle := h.le
  have hcap := h.cap
  refine ⟨by rw [List.length_drop]; omega, by omega, by split <;> simp, fun h0 => ?_⟩
  rw [if_neg (by omega)]
  obtain ⟨b', off', h1, hb, h2⟩ := h.at_ (by omega)
  cases h1
  refine ⟨b, off + i * 8, rfl, hb, fun k hk j hj => ?_⟩
  have hk' : i + k < kids.length := by rw [List.length_drop] at hk; omega
  have := h2 (i + k) hk' j (by rw [MRe.row_length] at hj ⊢; exact hj)
  rw [show off + i * 8 + k * 8 + j = off + (i + k) * 8 + j by omega, this]
  simp
theorem NodesIn.take {w : World} {ka : Option Addr} {kc : Nat} {kids : List MRe} (h : NodesIn w ka kc kids) (i : Nat) : NodesIn w ka kc (kids.take i) := by
  have hle := h.le
  refine ⟨by rw [List.length_take]; omega, h.cap, h.nil_, fun h0 => ?_⟩
  obtain ⟨b, off, h1, hb, h2⟩ := h.at_ h0
  refine ⟨b, off, h1, hb, fun k hk j hj => ?_⟩
  have hk' : k < kids.length := by rw [List.length_take] at hk; omega
  have := h2 k hk' j (by rw [MRe.row_length] at hj ⊢; exact hj)
  rw [this]
  simp

end Go.Proofs.YtgdmkddegcecaaaGreat
