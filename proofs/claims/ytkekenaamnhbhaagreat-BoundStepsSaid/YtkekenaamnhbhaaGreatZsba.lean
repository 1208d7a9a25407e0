/- Part 27 of the proof. No condition: every lemma says its own. -/
import Derived.Laws.EntriesVeiled
import Derived.Test.YtkekenaamnhbhaaGreatZsaa
import Derived.Test.YtkekenaamnhbhaaGreatZsag
import Derived.Test.YtkekenaamnhbhaaGreatZsaz
import Derived.Test.YtkekenaamnhbhaaGreatZsac
namespace Go.Proofs.YtkekenaamnhbhaaGreat
open Go.RowKit
open Go.RowKit Go.Sort Go.BigFrame
set_option maxRecDepth 100000
set_option maxHeartbeats 16000000
inductive Tree where
 | node (op : Int) (set : List (Int × Int)) (kids : List Tree) (mn mx mode n : Int) (neg : Bool)
inductive MRe where
 | node (op : Int) (sa : Option Addr) (sc : Nat) (set : List (Int × Int)) (ka : Option Addr) (kc : Nat) (kids : List MRe) (mn mx mode n : Int) (neg : Bool)
mutual
def MRe.tree : MRe → Tree
 | .node op _ _ set _ _ kids mn mx mode n neg => .node op set (MRe.trees kids) mn mx mode n neg
def MRe.trees : List MRe → List Tree
 | [] => []
 | k :: ks => k.tree :: MRe.trees ks
end
theorem MRe.trees_eq (l : List MRe) : MRe.trees l = l.map MRe.tree := by
 induction l with
 | nil => rfl
 | cons k ks ih => simp [MRe.trees, ih]
theorem MRe.trees_length (l : List MRe) : (MRe.trees l).length = l.length := by simp [MRe.trees_eq]
namespace Tree
def op : Tree → Int | .node op _ _ _ _ _ _ _ => op
def set : Tree → List (Int × Int) | .node _ set _ _ _ _ _ _ => set
def kids : Tree → List Tree | .node _ _ kids _ _ _ _ _ => kids
def mn : Tree → Int | .node _ _ _ mn _ _ _ _ => mn
def mx : Tree → Int | .node _ _ _ _ mx _ _ _ => mx
def mode : Tree → Int | .node _ _ _ _ _ mode _ _ => mode
def n : Tree → Int | .node _ _ _ _ _ _ n _ => n
def neg : Tree → Bool | .node _ _ _ _ _ _ _ neg => neg
def nil : Tree := .node 0 [] [] 0 0 0 0 false
mutual
def bulk : Tree → Nat
 | .node _ set kids _ _ _ _ _ => 1 + set.length + bulks kids
def bulks : List Tree → Nat
 | [] => 0
 | k :: ks => k.bulk + bulks ks
end
theorem bulks_mem {k : Tree} {l : List Tree} (h : k ∈ l) : k.bulk ≤ bulks l := by
 induction l with
 | nil => simp at h
 | cons x xs ih =>
  rcases List.mem_cons.1 h with rfl | h
  ·simp [bulks]
  ·have := ih h; simp only [bulks]; omega
theorem bulk_pos (t : Tree) : 1 ≤ t.bulk := by cases t; simp only [bulk]; omega
theorem length_le_bulks (l : List Tree) : l.length ≤ bulks l := by
 induction l with
 | nil => simp [bulks]
 | cons x xs ih => have := bulk_pos x; simp only [List.length_cons, bulks]; omega
end Tree
namespace MRe
def row : MRe → List Value
 | .node op sa sc set ka kc kids mn mx mode n neg => [.int .i64 op, .slice sa set.length sc, .slice ka kids.length kc, .int .i64 mn, .int .i64 mx, .int .i64 mode, .int .i64 n, .bool neg]
def val : MRe → Value
 | .node op sa sc set ka kc kids mn mx mode n neg => .agg #[.int .i64 op, .slice sa set.length sc, .slice ka kids.length kc, .int .i64 mn, .int .i64 mx, .int .i64 mode, .int .i64 n, .bool neg]
theorem row_length (m : MRe) : m.row.length = 8 := by cases m; rfl
def op : MRe → Int | .node op _ _ _ _ _ _ _ _ _ _ _ => op
def set : MRe → List (Int × Int) | .node _ _ _ set _ _ _ _ _ _ _ _ => set
def kids : MRe → List MRe | .node _ _ _ _ _ _ kids _ _ _ _ _ => kids
def nil : MRe := .node 0 none 0 [] none 0 [] 0 0 0 0 false
end MRe
structure SpansIn (w : World) (sa : Option Addr) (sc : Nat) (set : List (Int × Int)) : Prop where
 le : set.length ≤ sc
 cap : sc ≤ maxLen
 nil_ : sa = none → sc = 0
 at_ : 0 < sc → ∃ b off, sa = some ⟨b, off, none⟩ ∧ b < w.heap.size ∧ ∀ i (h : i < set.length), w.cell? ⟨b, off + i * 2, none⟩ = some (.int .i64 set[i].1) ∧ w.cell? ⟨b, off + i * 2 + 1, none⟩ = some (.int .i64 set[i].2)
structure NodesIn (w : World) (ka : Option Addr) (kc : Nat) (kids : List MRe) : Prop where
 le : kids.length ≤ kc
 cap : kc ≤ maxLen
 nil_ : ka = none → kc = 0
 at_ : 0 < kc → ∃ b off, ka = some ⟨b, off, none⟩ ∧ b < w.heap.size ∧ ∀ i (h : i < kids.length) j (hj : j < kids[i].row.length), w.cell? ⟨b, off + i * 8 + j, none⟩ = some kids[i].row[j]
inductive MRe.OK (w : World) : MRe → Prop
 | mk {op sa sc set ka kc kids mn mx mode n neg} (hs : SpansIn w sa sc set) (hk : NodesIn w ka kc kids) (hr : ∀ k, k ∈ kids → MRe.OK w k) : MRe.OK w (.node op sa sc set ka kc kids mn mx mode n neg)
theorem SpansIn.keep {w w' : World} {sa : Option Addr} {sc : Nat} {set : List (Int × Int)} (h : SpansIn w sa sc set) (k : Keeps [] w w') : SpansIn w' sa sc set :=
 ⟨h.le, h.cap, h.nil_, fun h0 => by
  obtain ⟨b, off, h1, hb, h2⟩ := h.at_ h0
  exact ⟨b, off, h1, Nat.lt_of_lt_of_le hb k.size, fun i hi => ⟨k.cell (h2 i hi).1 (by simp), k.cell (h2 i hi).2 (by simp)⟩⟩⟩
theorem NodesIn.keep {w w' : World} {ka : Option Addr} {kc : Nat} {kids : List MRe} (h : NodesIn w ka kc kids) (k : Keeps [] w w') : NodesIn w' ka kc kids :=
 ⟨h.le, h.cap, h.nil_, fun h0 => by
  obtain ⟨b, off, h1, hb, h2⟩ := h.at_ h0
  exact ⟨b, off, h1, Nat.lt_of_lt_of_le hb k.size, fun i hi j hj => k.cell (h2 i hi j hj) (by simp)⟩⟩
theorem MRe.OK.keep {w w' : World} (k : Keeps [] w w') {m : MRe} (h : m.OK w) : m.OK w' := by
 induction h with
 | mk hs hk _ ih => exact .mk (hs.keep k) (hk.keep k) ih
theorem MRe.OK.nodes {w : World} {op sa sc set ka kc kids mn mx mode n neg} (h : MRe.OK w (.node op sa sc set ka kc kids mn mx mode n neg)) : NodesIn w ka kc kids := by cases h; assumption
theorem MRe.OK.kid {w : World} {op sa sc set ka kc kids mn mx mode n neg} (h : MRe.OK w (.node op sa sc set ka kc kids mn mx mode n neg)) {k : MRe} (hk : k ∈ kids) : k.OK w := by cases h with | mk _ _ hr => exact hr k hk
structure KidsIn (w : World) (ka : Option Addr) (kc : Nat) (kids : List MRe) : Prop where
 nodes : NodesIn w ka kc kids
 all : ∀ k ∈ kids, k.OK w
theorem KidsIn.keep {w w' : World} {ka : Option Addr} {kc : Nat} {kids : List MRe} (h : KidsIn w ka kc kids) (k : Keeps [] w w') : KidsIn w' ka kc kids := ⟨h.nodes.keep k, fun x hx => (h.all x hx).keep k⟩
theorem MRe.OK.kids {w : World} {op sa sc set ka kc kids mn mx mode n neg} (h : MRe.OK w (.node op sa sc set ka kc kids mn mx mode n neg)) : KidsIn w ka kc kids := ⟨h.nodes, fun _ hk => h.kid hk⟩
theorem MRe.OK.of {w : World} {op sa sc set ka kc kids mn mx mode n neg} (hs : SpansIn w sa sc set) (hk : KidsIn w ka kc kids) : MRe.OK w (.node op sa sc set ka kc kids mn mx mode n neg) := .mk hs hk.nodes hk.all
theorem SpansIn.nil (w : World) : SpansIn w none 0 [] := ⟨by simp, by unfold maxLen; omega, fun _ => rfl, fun h => by omega⟩
theorem NodesIn.nil (w : World) : NodesIn w none 0 [] := ⟨by simp, by unfold maxLen; omega, fun _ => rfl, fun h => by omega⟩
theorem KidsIn.nil (w : World) : KidsIn w none 0 [] := ⟨NodesIn.nil w, by simp⟩
theorem MRe.OK.nil (w : World) : MRe.nil.OK w := .of (SpansIn.nil w) (KidsIn.nil w)
structure NodeAt (w : World) (b o : Nat) (op : Int) (sa : Option Addr) (ns sc : Nat) (ka : Option Addr) (nk kc : Nat) (mn mx mode n : Int) (neg : Bool) : Prop where
 c0 : w.cell? ⟨b, o, none⟩ = some (.int .i64 op)
 c1 : w.cell? ⟨b, o + 1, none⟩ = some (.slice sa ns sc)
 c2 : w.cell? ⟨b, o + 2, none⟩ = some (.slice ka nk kc)
 c3 : w.cell? ⟨b, o + 3, none⟩ = some (.int .i64 mn)
 c4 : w.cell? ⟨b, o + 4, none⟩ = some (.int .i64 mx)
 c5 : w.cell? ⟨b, o + 5, none⟩ = some (.int .i64 mode)
 c6 : w.cell? ⟨b, o + 6, none⟩ = some (.int .i64 n)
 c7 : w.cell? ⟨b, o + 7, none⟩ = some (.bool neg)
def At8 (w : World) (b o : Nat) (m : MRe) : Prop := ∀ j (hj : j < m.row.length), w.cell? ⟨b, o + j, none⟩ = some m.row[j]
theorem At8.node {w : World} {b o : Nat} {op sa sc set ka kc kids mn mx mode n neg} (h : At8 w b o (.node op sa sc set ka kc kids mn mx mode n neg)) : NodeAt w b o op sa set.length sc ka kids.length kc mn mx mode n neg :=
 ⟨h 0 (by rw [MRe.row_length]; omega), h 1 (by rw [MRe.row_length]; omega), h 2 (by rw [MRe.row_length]; omega), h 3 (by rw [MRe.row_length]; omega), h 4 (by rw [MRe.row_length]; omega), h 5 (by rw [MRe.row_length]; omega), h 6 (by rw [MRe.row_length]; omega), h 7 (by rw [MRe.row_length]; omega)⟩
theorem At8.keep {w w' : World} {b o : Nat} {m : MRe} (h : At8 w b o m) (k : Keeps [] w w') : At8 w' b o m := fun j hj => k.cell (h j hj) (by simp)
theorem NodesIn.kid {w : World} {ka : Option Addr} {kc : Nat} {kids : List MRe} (h : NodesIn w ka kc kids) (h0 : 0 < kids.length) : ∃ b off, ka = some ⟨b, off, none⟩ ∧ b < w.heap.size ∧ ∀ i (h : i < kids.length), At8 w b (off + i * 8) kids[i] := by
 obtain ⟨b, off, h1, hb, h2⟩ := h.at_ (by have := h.le; omega)
 exact ⟨b, off, h1, hb, h2⟩
theorem At8.of_block {w : World} {b : Nat} {cs : Array Value} {T : Nat} {fz : Nat × Nat} {m : MRe} (h : w.heap[b]? = some (.cells cs T fz)) (hc : cs = m.row.toArray) : At8 w b 0 m := by
 subst hc
 intro j hj
 simp [World.cell?, h, hj]
def flatK (kids : List MRe) : List Value := kids.flatMap MRe.row
theorem flatK_get (kids : List MRe) (i : Nat) (hi : i < kids.length) (j : Nat) (hj : j < kids[i].row.length) : (flatK kids)[i * 8 + j]? = some kids[i].row[j] := by
 induction kids generalizing i with
 | nil => simp at hi
 | cons k ks ih =>
  have hk := MRe.row_length k
  cases i with
  | zero =>
   have hj' : j < k.row.length := hj
   simp only [flatK, List.flatMap_cons, Nat.zero_mul, Nat.zero_add, List.getElem_cons_zero]
   rw [List.getElem?_append_left hj', List.getElem?_eq_getElem hj']
  | succ i =>
   have := ih i (by simpa using hi) hj
   simp only [flatK, List.flatMap_cons, List.getElem_cons_succ] at this ⊢
   rw [List.getElem?_append_right (by omega), hk, show (i + 1) * 8 + j - 8 = i * 8 + j by omega]
   exact this
def flatP (set : List (Int × Int)) : List Value := set.flatMap fun s => [.int .i64 s.1, .int .i64 s.2]
theorem flatP_length (set : List (Int × Int)) : (flatP set).length = set.length * 2 := by
 induction set with
 | nil => rfl
 | cons k ks ih => simp only [flatP, List.flatMap_cons, List.length_append, List.length_cons, List.length_nil] at ih ⊢; omega
theorem flatP_get (set : List (Int × Int)) (i : Nat) (hi : i < set.length) : (flatP set)[i * 2]? = some (.int .i64 set[i].1) ∧ (flatP set)[i * 2 + 1]? = some (.int .i64 set[i].2) := by
 induction set generalizing i with
 | nil => simp at hi
 | cons k ks ih =>
  cases i with
  | zero => simp [flatP]
  | succ i =>
   have := ih i (by simpa using hi)
   have e : flatP (k :: ks) = Value.int .i64 k.1 :: .int .i64 k.2 :: flatP ks := rfl
   rw [e, show (i + 1) * 2 = i * 2 + 2 by omega]
   simpa using this
theorem flatP_one (set : List (Int × Int)) : ∀ u ∈ flatP set, u.oneCell' = true := by
 intro u hu
 obtain ⟨k, _, h⟩ := List.mem_flatMap.1 hu
 simp at h
 rcases h with rfl | rfl <;> rfl
theorem NodesIn.of_block {w : World} {b : Nat} {cs : Array Value} {T : Nat} {fz : Nat × Nat} {kids : List MRe} (h : w.heap[b]? = some (.cells cs T fz)) (hc : cs.toList = flatK kids) (hm : kids.length ≤ maxLen) : NodesIn w (some ⟨b, 0, none⟩) kids.length kids := by
 refine ⟨Nat.le_refl _, hm, by simp, fun _ => ⟨b, 0, rfl, lt_of_block h, fun i hi j hj => ?_⟩⟩
 have h5 := flatK_get kids i hi j hj
 rw [Nat.zero_add]
 simp only [World.cell?, h]
 rw [← hc] at h5
 simpa using h5
theorem SpansIn.of_block {w : World} {b : Nat} {cs : Array Value} {T : Nat} {fz : Nat × Nat} {set : List (Int × Int)} (h : w.heap[b]? = some (.cells cs T fz)) (hc : cs.toList = flatP set) (hm : set.length ≤ maxLen) : SpansIn w (some ⟨b, 0, none⟩) set.length set := by
 refine ⟨Nat.le_refl _, hm, by simp, fun _ => ⟨b, 0, rfl, lt_of_block h, fun i hi => ?_⟩⟩
 obtain ⟨h5, h6⟩ := flatP_get set i hi
 rw [Nat.zero_add]
 simp only [World.cell?, h]
 rw [← hc] at h5 h6
 exact ⟨by simpa using h5, by simpa using h6⟩
theorem At8.box {w : World} {cs : Array Value} {T : Nat} {m : MRe} (h : cs.toList = m.row) : At8 (w.alloc (.cells cs T)) w.heap.size 0 m :=
 At8.of_block (heap_alloc_new w _) (by rw [← h])
theorem Keeps.a2 (w : World) (a b : Obj) : Keeps [] w ((w.alloc a).alloc b) := (Keeps.a1 w a).alloc b
theorem Keeps.a3 (w : World) (a b c : Obj) : Keeps [] w (((w.alloc a).alloc b).alloc c) := (Keeps.a2 w a b).alloc c
theorem Keeps.a4 (w : World) (a b c d : Obj) : Keeps [] w ((((w.alloc a).alloc b).alloc c).alloc d) := (Keeps.a3 w a b c).alloc d
theorem NodesIn.drop {w : World} {b off kc : Nat} {kids : List MRe} (h : NodesIn w (some ⟨b, off, none⟩) kc kids) (i : Nat) (hi : i ≤ kids.length) : NodesIn w (if kc = i then some ⟨b, off, none⟩ else some ⟨b, off + i * 8, none⟩) (kc - i) (kids.drop i) := by
 have hle := h.le
 have hcap := h.cap
 refine ⟨by rw [List.length_drop]; omega, by omega, by split <;> simp, fun h0 => ?_⟩
 rw [if_neg (by omega)]
 obtain ⟨b', off', h1, hb, h2⟩ := h.at_ (by omega)
 cases h1
 refine ⟨b, off + i * 8, rfl, hb, fun k hk j hj => ?_⟩
 have hk' : i + k < kids.length := by rw [List.length_drop] at hk; omega
 have := h2 (i + k) hk' j (by rw [MRe.row_length] at hj ⊢; exact hj)
 rw [show off + i * 8 + k * 8 + j = off + (i + k) * 8 + j by omega, this]
 simp
theorem NodesIn.take {w : World} {ka : Option Addr} {kc : Nat} {kids : List MRe} (h : NodesIn w ka kc kids) (i : Nat) : NodesIn w ka kc (kids.take i) := by
 have hle := h.le
 refine ⟨by rw [List.length_take]; omega, h.cap, h.nil_, fun h0 => ?_⟩
 obtain ⟨b, off, h1, hb, h2⟩ := h.at_ h0
 refine ⟨b, off, h1, hb, fun k hk j hj => ?_⟩
 have hk' : k < kids.length := by rw [List.length_take] at hk; omega
 have := h2 k hk' j (by rw [MRe.row_length] at hj ⊢; exact hj)
 rw [this]
 simp
theorem run_append_zero {P : Program} (w : World) (t ty e : TypeId) (i : TypeInfo) (ht : P.underlying t = some (.slice e)) (hi : P.info? e = some i) (base : Option Addr) (n c : Nat) (xa : Option Addr) (cc : Nat) (hn : n ≤ c) :
  (Builtin.append_ #[t, t] ty #[.slice base n c, .slice xa 0 cc]).run P w = .ok (.slice base n c) w := by
 have hfc : (Builtin.firstCells i.size 0 (.slice xa 0 cc)).run P w = .ok #[] w := by
  cases xa with
  | none => simp [Builtin.firstCells]
  | some a => simpa using run_firstCells_some (P := P) (w := w) i.size 0 a 0 cc [] (by simp) (by simp)
 have hst : ∀ (a : Addr), (storeCells a []).run P w = .ok () w := fun a => by simp [storeCells]
 cases base with
 | none => simp [Builtin.append_, run_underlying ht, typeInfo, hi, hfc, Builtin.lenOf, hn, sizeOf]
 | some a => simp [Builtin.append_, run_underlying ht, typeInfo, hi, hfc, Builtin.lenOf, hn, hst, sizeOf]
theorem run_append_any {P : Program} (w : World) (t ty e : TypeId) (i : TypeInfo) (z : Value) (size bytes : Nat) (ht : P.underlying t = some (.slice e)) (hi : P.info? e = some i) (hz : i.zero = some z)
  (hsize : i.size = size) (hby : i.bytes = bytes) (hzs : z.cells.size = size) (hsz : 0 < size)
  (a : Option Nat) (n c : Nat) (xs : List Value) (hown : SliceAt w e size a n c xs)
  (xa : Option Addr) (m cc : Nat) (news : List Value) (hl : news.length = m * size) (hnews : 0 < m → ∃ ad, xa = some ad ∧ ∀ j u, news[j]? = some u → w.cell? (ad.add j) = some u) (h1 : ∀ u ∈ news, u.oneCell' = true)
  (hlen : n + m ≤ 140737488355328) (hbytes : (n + m) * bytes ≤ 140737488355328) :
  ∃ a' c' w', (Builtin.append_ #[t, t] ty #[sv a n c, .slice xa m cc]).run P w = .ok (sv a' (n + m) c') w' ∧ SliceAt w' e size a' (n + m) c' (xs ++ news) ∧ Keeps a.toList w w' ∧ (a' = a ∨ ∃ g, a' = some g ∧ w.heap.size ≤ g) := by
 by_cases hm : m = 0
 ·subst hm
  have hx : news = [] := List.eq_nil_of_length_eq_zero (by simpa using hl)
  subst hx
  have hnc : n ≤ c := by
   cases a with
   | none => obtain ⟨_, h2, h3⟩ := hown; omega
   | some g => obtain ⟨_, cur, _, h3, _⟩ := hown; exact h3
  exact ⟨a, c, w, run_append_zero w t ty e i ht hi _ n c xa cc hnc, by simpa using hown, Keeps.refl _ _, .inl rfl⟩
 ·obtain ⟨ad, rfl, hc⟩ := hnews (by omega)
  obtain ⟨g, c', w', hr, h2, h3, h4⟩ := run_append_sl (P := P) w t ty e i z size bytes ht hi hz hsize hby hzs hsz a n c xs hown ad m cc news hl hc h1 (by omega) hlen hbytes
  refine ⟨some g, c', w', hr, h2, h3, ?_⟩
  rcases h4 with h | h
  ·exact .inl h.symm
  ·exact .inr ⟨g, rfl, h⟩
theorem wpList_append_any {P : Program} {w : World} {ops : Array Oper} {rest : List Oper} {o : Oper} {A : Act} {Q : Exit → Act → World → Prop} (hgd : o.guard = none) (s x : Operand) (t : TypeId)
  (ho : o.op = .call { callee := .builtin .append, args := #[s, x], argTypes := #[t, t] })
  (e : TypeId) (i : TypeInfo) (z : Value) (size bytes : Nat) (ht : P.underlying t = some (.slice e)) (hi : P.info? e = some i) (hz : i.zero = some z)
  (hsize : i.size = size) (hby : i.bytes = bytes) (hzs : z.cells.size = size) (hsz : 0 < size)
  (a : Option Nat) (n c : Nat) (xs : List Value) (hs : A.eval s = sv a n c) (hown : SliceAt w e size a n c xs)
  (xa : Option Addr) (m cc : Nat) (news : List Value) (hx : A.eval x = .slice xa m cc) (hl : news.length = m * size) (hnews : 0 < m → ∃ ad, xa = some ad ∧ ∀ j u, news[j]? = some u → w.cell? (ad.add j) = some u) (h1 : ∀ u ∈ news, u.oneCell' = true)
  (hlen : n + m ≤ 140737488355328) (hbytes : (n + m) * bytes ≤ 140737488355328)
  (h : ∀ a' c' w', SliceAt w' e size a' (n + m) c' (xs ++ news) → Keeps a.toList w w' → (a' = a ∨ ∃ g, a' = some g ∧ w.heap.size ≤ g) → wpList P ops Q rest (A.put o.dst (sv a' (n + m) c')) w') : wpList P ops Q (o :: rest) A w :=
 wpList_plain hgd fun K hK => by
  obtain ⟨a', c', w', hr, h2, h3, h4⟩ := run_append_any (P := P) w t o.type e i z size bytes ht hi hz hsize hby hzs hsz a n c xs hown xa m cc news hl hnews h1 hlen hbytes
  unfold Oper.wp execOp
  simp only [ho, resolve, invoke, builtin, Sem.run_bind, Sem.run_pure, Result.andThen_ok, List.map_toArray, List.map_cons, List.map_nil, hs, hx, hr]
  exact hK _ _ (h a' c' w' h2 h3 h4)
structure IsT where
 op : Int
 x : Int
 y : Int
 n : Int
 sp : List (Int × Int)
deriving DecidableEq
def insS (i : Ins) : IsT := ⟨i.op, i.x, i.y, i.n, i.sp⟩
mutual
def codeP (p : Nat) : Tree → List IsT
 | .node op set kids _ _ _ _ _ => if op = 1 then [⟨1, 0, 0, 0, set⟩] else if op = 2 then codesP p kids else if op = 4 then
   (⟨2, ((p + 1 : Nat) : Int), ((p + 2 + (codesP (p + 1) kids).length : Nat) : Int), 0, []⟩ : IsT) :: (codesP (p + 1) kids ++ [⟨3, (p : Nat), 0, 0, []⟩]) else []
def codesP (p : Nat) : List Tree → List IsT
 | [] => []
 | t :: r => codeP p t ++ codesP (p + (codeP p t).length) r
end
def setP : Tree → Bool
 | .node op _ kids _ _ _ _ _ => decide (op = 1) && kids.isEmpty
mutual
def okP : Tree → Bool
 | .node op _ kids mn mx mode _ _ => (decide (op = 1) && kids.isEmpty) || (decide (op = 2) && okPs kids) || (decide (op = 4) && decide (mn = 0) && decide (mx = -1) && decide (mode = 0) && decide (kids.length = 1) && okPs kids && kids.all setP)
def okPs : List Tree → Bool
 | [] => true
 | t :: r => okP t && okPs r
end
theorem okPs_mem {l : List Tree} (h : okPs l = true) : ∀ t ∈ l, okP t = true := by
 induction l with
 | nil => intro t ht; cases ht
 | cons x r ih =>
  simp only [okPs, Bool.and_eq_true] at h
  intro t ht
  rcases List.mem_cons.1 ht with rfl | ht
  ·exact h.1
  ·exact ih h.2 t ht
theorem codesP_take (l : List Tree) : ∀ (p k : Nat) (h : k < l.length), codesP p (l.take (k + 1)) = codesP p (l.take k) ++ codeP (p + (codesP p (l.take k)).length) l[k] := by
 induction l with
 | nil => intro p k h; cases h
 | cons x r ih =>
  intro p k h
  cases k with
  | zero => simp [codesP]
  | succ k =>
   simp only [List.take_succ_cons, codesP, List.getElem_cons_succ]
   rw [ih _ k (by simpa using h), List.append_assoc, List.length_append, Nat.add_assoc]
mutual
def lenP : Tree → Nat
 | .node op _ kids _ _ _ _ _ => if op = 1 then 1 else if op = 2 then lensP kids else if op = 4 then lensP kids + 2 else 0
def lensP : List Tree → Nat
 | [] => 0
 | t :: r => lenP t + lensP r
end
mutual
theorem codeP_length : ∀ (t : Tree) (p : Nat), (codeP p t).length = lenP t
 | .node op set kids mn mx mode n neg, p => by
  simp only [codeP, lenP]
  split
  ·rfl
  ·split
   ·exact codesP_length kids p
   ·split
    ·simp [codesP_length kids]
    ·rfl
theorem codesP_length : ∀ (l : List Tree) (p : Nat), (codesP p l).length = lensP l
 | [], p => rfl
 | t :: r, p => by
  simp only [codesP, lensP, List.length_append]
  rw [codeP_length t, codesP_length r]
end
theorem lensP_take (l : List Tree) : ∀ (k : Nat) (h : k < l.length), lensP (l.take (k + 1)) = lensP (l.take k) + lenP l[k] := by
 induction l with
 | nil => intro k h; cases h
 | cons x r ih =>
  intro k h
  cases k with
  | zero => simp [lensP]
  | succ k =>
   simp only [List.take_succ_cons, lensP, List.getElem_cons_succ]
   rw [ih k (by simpa using h), Nat.add_assoc]
theorem lensP_le (l : List Tree) : ∀ k, lensP (l.take k) ≤ lensP l := by
 induction l with
 | nil => intro k; simp
 | cons x r ih =>
  intro k
  cases k with
  | zero => simp [lensP]
  | succ k =>
   simp only [List.take_succ_cons, lensP]
   have := ih k
   omega
def rowI (i : Ins) : List Value := [.int .i64 i.op, .int .i64 i.x, .int .i64 i.y, .int .i64 i.n, .slice i.sa i.sp.length i.sc]
def flatI (l : List Ins) : List Value := l.flatMap rowI
theorem flatI_length (l : List Ins) : (flatI l).length = l.length * 5 := by
 induction l with
 | nil => rfl
 | cons x r ih => show (rowI x ++ flatI r).length = _; rw [List.length_append, ih, List.length_cons]; show 5 + _ = _; omega
theorem flatI_append (a b : List Ins) : flatI (a ++ b) = flatI a ++ flatI b := by simp [flatI]
theorem rowI_one (i : Ins) : ∀ u ∈ rowI i, u.oneCell' = true := by
 intro u hi
 simp only [rowI, List.mem_cons, List.not_mem_nil, or_false] at hi
 rcases hi with rfl | rfl | rfl | rfl | rfl <;> rfl
theorem flatI_set : ∀ (l : List Ins) (k : Nat) (_ : k < l.length) (i : Ins), flatI (l.set k i) = (((((flatI l).set (k * 5) (.int .i64 i.op)).set (k * 5 + 1) (.int .i64 i.x)).set (k * 5 + 2) (.int .i64 i.y)).set (k * 5 + 3) (.int .i64 i.n)).set (k * 5 + 4) (.slice i.sa i.sp.length i.sc)
 | x :: l, 0, _, i => by simp [flatI, rowI]
 | x :: l, k + 1, h, i => by
  have ih := flatI_set l k (by simpa using h) i
  show rowI x ++ flatI (l.set k i) = _
  rw [ih]
  have e : flatI (x :: l) = rowI x ++ flatI l := rfl
  rw [e]
  have q : ∀ (j : Nat) (L : List Value) (v : Value), (rowI x ++ L).set ((k + 1) * 5 + j) v = rowI x ++ L.set (k * 5 + j) v := fun j L v => by
   rw [List.set_append_right _ _ (by show 5 ≤ _; omega)]
   congr 2
   show _ - 5 = _
   omega
  have q0 := q 0 (flatI l) (.int .i64 i.op)
  simp only [Nat.add_zero] at q0
  rw [q0, q 1, q 2, q 3, q 4]
theorem infoPI : (Tryz.prog.info? 112).map (fun i => (i.zero, i.size, i.bytes)) = some (some (.agg #[.int .i64 0, .int .i64 0, .int .i64 0, .int .i64 0, .slice none 0 0]), 5, 56) := by kernel_rfl
theorem infoSpP : (Tryz.prog.info? 51).map (fun i => (i.zero, i.size, i.bytes)) = some (some (.agg #[.int .i64 0, .int .i64 0]), 2, 16) := by kernel_rfl
theorem infoEP {P : Program} {e : TypeId} {z : Value} {s b : Nat} (h : (P.info? e).map (fun i => (i.zero, i.size, i.bytes)) = some (some z, s, b)) : ∃ i, P.info? e = some i ∧ i.zero = some z ∧ i.size = s ∧ i.bytes = b := by
 cases hi : P.info? e with
 | none => rw [hi] at h; simp at h
 | some i => rw [hi] at h; simp at h; exact ⟨i, rfl, h.1, h.2.1, h.2.2⟩
theorem spans_srcP {w : World} {ka : Option Addr} {kc : Nat} {set : List (Int × Int)} (h : SpansIn w ka kc set) : 0 < set.length → ∃ ad, ka = some ad ∧ ∀ j u, (flatP set)[j]? = some u → w.cell? (ad.add j) = some u := fun h0 => by
 obtain ⟨b, off, rfl, _, hc⟩ := h.at_ (by have := h.le; omega)
 refine ⟨_, rfl, fun j u hj => ?_⟩
 have hadd : (⟨b, off, none⟩ : Addr).add j = ⟨b, off + j, none⟩ := by unfold Addr.add; split <;> simp_all
 obtain ⟨hjl, _⟩ := List.getElem?_eq_some_iff.1 hj
 rw [flatP_length] at hjl
 have hi : j / 2 < set.length := by omega
 obtain ⟨c0, c1⟩ := hc (j / 2) hi
 have hg := flatP_get set (j / 2) hi
 rw [hadd]
 rcases (by omega : j = j / 2 * 2 ∨ j = j / 2 * 2 + 1) with h1 | h1
 ·have g := hg.1
  rw [← h1] at g c0
  rw [g] at hj; cases hj; exact c0
 ·have g := hg.2
  rw [← h1] at g
  rw [Nat.add_assoc, ← h1] at c1
  rw [g] at hj; cases hj; exact c1
theorem spanCloneP_any (sa : Option Addr) (sc : Nat) (set : List (Int × Int)) (w : World) (h : SpansIn w sa sc set) (hb : set.length ≤ 1000000) :
  Calls Tryz.prog 83 #[.slice sa set.length sc] w fun e w' => ∃ (a : Option Nat) (c : Nat), e = .returned (.slice (a.map fun g => ⟨g, 0, none⟩) set.length c) ∧ SliceAt w' 51 2 a set.length c (flatP set) ∧ Keeps [] w w' ∧ ∀ g, a = some g → w.heap.size ≤ g := by
 obtain ⟨i0, hi, hz0, hz1, hz2⟩ := infoEP infoSpP
 have Hi := gI hi
 have Hz0 := gI hz0
 have Hz1 := gI hz1
 have Hz2 := gI hz2
 have HS := gI h
 clear hi hz0 hz1 hz2 h
 have hnil : ∀ (w : World) (a : Option Addr) (n c n' c' : Nat), (binOp .eql 52 (.slice a n c) (.slice none n' c')).run Tryz.prog w = .ok (.bool a.isNone) w := fun w a n c n' c' => Lib.run_eql_slice_nil w _ _ a n c n' c' Tryz.underlying52
 cases sa with
 | none =>
  have h0 : set.length = 0 := by have := HS.out.nil_ rfl; have := HS.out.le; omega
  go_enter Tryz.func83, Tryz.ntmps83
  go_wp2
  go_ret
  have he : set = [] := List.eq_nil_of_length_eq_zero h0
  subst he
  exact ⟨none, 0, rfl, SliceAt.nil _ _ _, Keeps.refl _ _, fun g hg => by cases hg⟩
 | some a =>
  go_enter Tryz.func83, Tryz.ntmps83
  go_wp2_with (at_builtin; refine wpList_append_any rfl (.tmp 5) (.tmp 6) 52 rfl 51 i0 _ 2 16 Tryz.underlying52 Hi.out Hz0.out Hz1.out Hz2.out rfl (by decide) (some w.heap.size) 0 0 [] rfl ⟨by simp, #[], heap_alloc_new w _, Nat.le_refl _, by unfold maxLen; omega, by simp, by simp⟩ (some a) set.length sc (flatP set) rfl (flatP_length set) (spans_srcP (HS.out.keep ((Keeps.refl [] w).alloc _))) (flatP_one set) (by omega) (by omega) ?hk)
  case hk =>
   intro a' c' w' hsl hk ha
   try simp only [Nat.zero_add, List.nil_append] at hsl
   have HSL := gI hsl
   have HK := gI (show Keeps [] w w' from ((Keeps.refl [] w).alloc _).after hk (by intro x hx; simp at hx; exact .inr (by omega)))
   have HA := gI (show ∀ g, a' = some g → w.heap.size ≤ g by
    intro g hg
    rcases ha with h | ⟨g', h, h2⟩
    ·rw [hg] at h; cases h; exact Nat.le_refl _
    ·rw [hg] at h; cases h; have : w.heap.size ≤ (w.alloc (.cells #[] 51)).heap.size := by simp
     omega)
   clear hsl hk ha
   go_wp2
   go_ret
   exact ⟨a', c', by simp [sv], HSL.out, HK.out, HA.out⟩
end Go.Proofs.YtkekenaamnhbhaaGreat
