/- Part 2 of the proof. No condition: every lemma says its own. -/
import Derived.Maps.RangeWalk
import Derived.Maps.Views
import Derived.Test.YtkekenaamnhbhaaGreatZsaa
namespace Go.Proofs.YtkekenaamnhbhaaGreat
open Go.Maps (Keyed)
open Classical
open Go.RowKit
set_option maxRecDepth 100000
set_option maxHeartbeats 16000000
section
def Rv (v : Value) : Option (DataW Value × List MemPlace) := some (.held v, [])
def MapAt (w : World) (P : Program) (k b n : Nat) (g : Value → Option Value) : Prop :=
 ∃ D, w.ownsMap P k Rv b n D ∧ ∀ key kl, keyOf P k key = some kl → ∀ zd, D.atKey kl zd = ((g key).map DataW.held).getD zd
def IsKey (P : Program) (k : TypeId) (v : Value) : Prop := ∃ kl, keyOf P k v = some kl
variable {P : Program} {k e t b n r cnt : Nat} {w w' : World} {g : Value → Option Value} {left : Value → Bool}
theorem MapAt.made (w : World) (P : Program) (k : Nat) : MapAt (w.alloc (.map #[] 0)) P k w.heap.size 0 (fun _ => none) :=
 ⟨_, World.ownsMap_made w P k Rv, fun _ kl _ zd => Maps.atKey_of_not_has (by rfl) zd⟩
theorem MapAt.lt (h : MapAt w P k b n g) : b < w.heap.size := by obtain ⟨_, h, _⟩ := h; exact h.lt
theorem MapAt.mono (h : MapAt w P k b n g) {m : Nat} (hm : n ≤ m) : MapAt w P k b m g := by obtain ⟨D, h1, h2⟩ := h; exact ⟨D, h1.mono hm, h2⟩
theorem MapAt.keep {S : List Nat} (h : MapAt w P k b n g) (K : Keeps S w w') (hb : b ∉ S) : MapAt w' P k b n g := by
 obtain ⟨D, ⟨es, clock, h1, h2⟩, h3⟩ := h
 exact ⟨D, ⟨es, clock, K.heap h1 hb, h2⟩, h3⟩
theorem MapAt.ext (h : MapAt w P k b n g) {g' : Value → Option Value} (hg : ∀ v, IsKey P k v → g v = g' v) : MapAt w P k b n g' := by
 obtain ⟨D, h1, h2⟩ := h
 exact ⟨D, h1, fun key kl hk zd => by rw [← hg key ⟨kl, hk⟩]; exact h2 key kl hk zd⟩
theorem held_of {o : Option Value} {d : DataW Value} (h : ∀ zd, ((o.map DataW.held).getD zd) = d) : ∃ v, o = some v ∧ d = .held v := by
 cases o with
 | some v => exact ⟨v, rfl, (h .nil).symm⟩
 | none => have h1 := h .nil; have h2 := h (.slice [] []); simp at h1 h2; rw [← h1] at h2; cases h2
theorem held_none {o : Option Value} (h : ∀ zd : DataW Value, ((o.map DataW.held).getD zd) = zd) : o = none := by
 cases o with
 | none => rfl
 | some v => have h1 := h .nil; simp at h1
theorem MapAt.look (h : MapAt w P k b n g) (c : Bool) (K : Keyed P k) (ht : P.underlying t = some (.map k e)) {z : Value} (hz : (zeroValue e).run P w = .ok z w) {key : Value} (hkey : IsKey P k key) :
  (Instr.lookup t (.map (some b)) key c).run P w = .ok (if c then .tuple #[(g key).getD z, .bool (g key).isSome] else (g key).getD z) w := by
 obtain ⟨D, ⟨es, clock, hb, F, _, rfl⟩, h2⟩ := h
 obtain ⟨kl, hkey⟩ := hkey
 rcases Maps.fit_look c K ht hz hb F hkey with ⟨hrun, _, hat⟩ | ⟨e0, y, _, _, hrun, hR, hat, _⟩
 ·rw [held_none fun zd => (h2 key kl hkey zd).symm.trans (hat zd), hrun]; rfl
 ·obtain ⟨v, hv, hd⟩ := held_of fun zd => (h2 key kl hkey zd).symm.trans (hat zd)
  simp only [Rv, Option.some.injEq] at hR
  subst hR
  simp only [DataW.held.injEq] at hd
  rw [hv, hrun, hd]; rfl
theorem MapAt.put (h : MapAt w P k b n g) (K : Keyed P k) (ht : P.underlying t = some (.map k e)) (hn : n < maxLen) {key : Value} (val : Value) (hkey : IsKey P k key) :
  ∃ w', (Instr.mapUpdate t (.map (some b)) key val).run P w = .ok () w' ∧ MapAt w' P k b (n + 1) (fun v => if v = key then some val else g v) ∧ Keeps [b] w w' := by
 obtain ⟨D, h1, h2⟩ := h
 obtain ⟨kl, hkey⟩ := hkey
 obtain ⟨w', hrun, hown, hgr⟩ := h1.update K ht hn hkey (d := .held val) (ps := []) (val := val) rfl
 have hD : Maps.IsMap D := by obtain ⟨es, _, _, _, _, rfl⟩ := h1; exact ⟨_, rfl⟩
 refine ⟨w', hrun, ⟨_, hown, fun key' kl' hk' zd => ?_⟩, Keeps.of_grown hgr⟩
 simp only
 split
 ·rename_i he
  subst he
  rw [hkey] at hk'
  cases hk'
  rw [Maps.atKey_put_same hD (K.key hkey)]; rfl
 ·rename_i hne
  rw [Maps.atKey_put_other (fun he => hne (K.inj hk' (by rw [he]; exact hkey)))]
  exact h2 key' kl' hk' zd
theorem wpList_mapPut {ops : Array Oper} {rest : List Oper} {o : Oper} {a : Act} {Q : Exit → Act → World → Prop} (hg : o.guard = none) (m x v : Operand) (t : TypeId) (hop : o.op = Op.mapUpdate t m x v)
  (k e : TypeId) (K : Keyed P k) (ht : P.underlying t = some (.map k e)) (b n : Nat) (g : Value → Option Value) (hm : a.eval m = .map (some b)) (h : MapAt w P k b n g) (hn : n < maxLen) (hkey : IsKey P k (a.eval x))
  (hK : ∀ w', MapAt w' P k b (n + 1) (fun u => if u = a.eval x then some (a.eval v) else g u) → Keeps [b] w w' → wpList P ops Q rest (a.put o.dst undef) w') : wpList P ops Q (o :: rest) a w := by
 refine wpList_plain hg fun K' hK' => ?_
 obtain ⟨w', hrun, r1, r2⟩ := h.put K ht hn (a.eval v) hkey
 unfold Oper.wp
 simp [execOp, hop, hm, hrun, Result.andThen]
 exact hK' _ _ (hK w' r1 r2)
def RangeAt (w : World) (P : Program) (k b r n : Nat) (g : Value → Option Value) (left : Value → Bool) (cnt : Nat) : Prop :=
 ∃ D lf, w.ranges P k Rv b r n D lf cnt ∧ (∀ key kl, keyOf P k key = some kl → ∀ zd, D.atKey kl zd = ((g key).map DataW.held).getD zd) ∧ ∀ key kl, keyOf P k key = some kl → left key = lf kl
theorem RangeAt.map (h : RangeAt w P k b r n g left cnt) : MapAt w P k b n g := by obtain ⟨D, lf, h1, h2, _⟩ := h; exact ⟨D, h1.owns, h2⟩
theorem RangeAt.left_eq (h : RangeAt w P k b r n g left cnt) : w.rangeLeft b r = cnt := by obtain ⟨D, lf, h1, _⟩ := h; exact h1.left_eq
theorem RangeAt.lt (h : RangeAt w P k b r n g left cnt) : r < w.heap.size := by obtain ⟨D, lf, h1, _⟩ := h; exact h1.lt
theorem RangeAt.keep {S : List Nat} (h : RangeAt w P k b r n g left cnt) (K : Keeps S w w') (hb : b ∉ S) (hr : r ∉ S) : RangeAt w' P k b r n g left cnt := by
 obtain ⟨D, lf, ⟨es, clock, since, seen, c0, h1, h2, h3, h4, h5, h6⟩, h7⟩ := h
 exact ⟨D, lf, ⟨es, clock, since, seen, c0, K.heap h1 hb, h2, h3, h4, K.heap h5 hr, h6⟩, h7⟩
theorem wpList_rangeMap {ops : Array Oper} {rest : List Oper} {o : Oper} {a : Act} {Q : Exit → Act → World → Prop} (hg : o.guard = none) (m : Operand) (t : TypeId) (hop : o.op = Op.range t m) (k e : TypeId) (K : Keyed P k) (ht : P.underlying t = some (.map k e))
  (b n : Nat) (g : Value → Option Value) (hm : a.eval m = .map (some b)) (h : MapAt w P k b n g)
  (hK : ∀ w' cnt, RangeAt w' P k b w.heap.size n g (fun v => (g v).isSome) cnt → Keeps [] w w' → w'.heap.size = w.heap.size + 1 → wpList P ops Q rest (a.put o.dst (.pointer (some ⟨w.heap.size, 0, none⟩))) w') : wpList P ops Q (o :: rest) a w := by
 obtain ⟨D, h1, h2⟩ := h
 refine wpList_range_own w hg m t hop k e K ht Rv b n D hm h1 fun w' hr hg hs => ?_
 refine hK w' _ ⟨D, _, hr, h2, fun key kl hk => ?_⟩ (Keeps.of_grown hg) hs
 have hk2 := h2 key kl hk
 cases hgk : g key with
 | none => rw [hgk] at hk2; show (g key).isSome = _; rw [hgk]; exact (Maps.has_false_of_atKey hk2).symm
 | some v => rw [hgk] at hk2; show (g key).isSome = _; rw [hgk]; exact (Maps.has_true_of_atKey hk2).symm
theorem wpList_nextMap {ops : Array Oper} {rest : List Oper} {o : Oper} {a : Act} {Q : Exit → Act → World → Prop} (hg : o.guard = none) (it : Operand) (hop : o.op = Op.next it false) (k : TypeId) (K : Keyed P k)
  (b r n : Nat) (g : Value → Option Value) (left : Value → Bool) (cnt : Nat) (hit : a.eval it = .pointer (some ⟨r, 0, none⟩)) (h : RangeAt w P k b r n g left cnt)
  (hDone : (∀ v, IsKey P k v → left v = false) → wpList P ops Q rest (a.put o.dst (.tuple #[.bool false])) w)
  (hMore : ∀ (x c : Value) (w' : World) (cnt' : Nat), IsKey P k x → left x = true → g x = some c → RangeAt w' P k b r n g (fun z => left z && !decide (z = x)) cnt' → cnt' < cnt →
   Keeps [r] w w' → w'.heap.size = w.heap.size → (Instr.entry (.pointer (some ⟨r, 0, none⟩))).run P w' = .ok (.tuple #[x, c]) w' → wpList P ops Q rest (a.put o.dst (.tuple #[.bool true, x, c])) w') : wpList P ops Q (o :: rest) a w := by
 obtain ⟨D, lf, h1, h2, h3⟩ := h
 refine wpList_next_ranges w hg it hop k K Rv id id (fun key kl _ => ⟨key, rfl⟩) (fun v y _ => ⟨v, rfl⟩) b r n D lf cnt hit h1 (fun _ hl => hDone fun v ⟨kl, hk⟩ => by rw [h3 v kl hk]; exact hl kl) ?_
 intro x c kl y w' cnt' hkey hl hR hat hr hlt hgr hsz hen
 have hkey : keyOf P k x = some kl := hkey
 obtain ⟨v, hv, hd⟩ := held_of fun zd => (h2 x kl hkey zd).symm.trans (hat zd)
 simp only [Rv, id, Option.some.injEq] at hR
 subst hR
 simp only [DataW.held.injEq] at hd
 subst hd
 refine hMore x _ w' cnt' ⟨kl, hkey⟩ (by rw [h3 x kl hkey]; exact hl) hv ⟨D, _, hr, h2, fun z kz hz => ?_⟩ hlt (Keeps.of_grown hgr) hsz hen
 simp only
 rw [h3 z kz hz]
 congr 2
 cases hs : kz.sameKey kl with
 | true =>
  have := WideAt.sameKey_eq hs
  subst this
  rw [K.inj hz hkey]
  simp
 | false =>
  have : z ≠ x := fun e => by
   subst e
   rw [hz] at hkey
   cases hkey
   rw [WideAt.sameKey_self (K.key hz)] at hs
   cases hs
  simp [this]
end
section
def triL (z : Tri) : List Value := [.int .i64 z.1, .int .i64 z.2.1, .int .i64 z.2.2]
def triv (z : Tri) : Value := .agg #[.int .i64 z.1, .int .i64 z.2.1, .int .i64 z.2.2]
def triF : List Tri → List Value
 | [] => []
 | z :: r => triL z ++ triF r
theorem triF_length : ∀ zs : List Tri, (triF zs).length = zs.length * 3
 | [] => rfl
 | z :: r => by
  have := triF_length r
  simp only [triF, triL, List.length_append, List.length_cons, List.length_nil]
  omega
theorem triF_append : ∀ xs ys : List Tri, triF (xs ++ ys) = triF xs ++ triF ys
 | [], _ => rfl
 | z :: r, ys => by rw [List.cons_append, triF, triF, triF_append r ys, List.append_assoc]
theorem triF_get : ∀ (zs : List Tri) (sp : List Value) (i : Nat), i < zs.length → (triF zs ++ sp)[i * 3]? = some (.int .i64 (zs.getD i z0).1) ∧ (triF zs ++ sp)[i * 3 + 1]? = some (.int .i64 (zs.getD i z0).2.1) ∧ (triF zs ++ sp)[i * 3 + 2]? = some (.int .i64 (zs.getD i z0).2.2)
 | z :: r, sp, 0, _ => ⟨rfl, rfl, rfl⟩
 | z :: r, sp, i + 1, h => by
  have ih := triF_get r sp i (by simpa using h)
  rw [Nat.succ_mul]
  exact ih
theorem triF_set : ∀ (zs : List Tri) (sp : List Value) (i : Nat) (t : Tri), i < zs.length → (((triF zs ++ sp).set (i * 3) (.int .i64 t.1)).set (i * 3 + 1) (.int .i64 t.2.1)).set (i * 3 + 2) (.int .i64 t.2.2) = triF (zs.set i t) ++ sp
 | z :: r, sp, 0, t, _ => rfl
 | z :: r, sp, i + 1, t, h => by
  have ih := triF_set r sp i t (by simpa using h)
  rw [Nat.succ_mul]
  simp only [triF, triL, List.set_cons_succ, List.cons_append, List.nil_append]
  rw [ih]
def Tris (E : Nat) (w : World) (b : Nat) (sp : List Value) (zs : List Tri) : Prop := w.heap[b]? = some (.cells (triF zs ++ sp).toArray E (0, 0))
variable {E b : Nat} {w w' : World} {sp : List Value} {zs : List Tri}
theorem Tris.lt (h : Tris E w b sp zs) : b < w.heap.size := lt_of_block h
theorem Tris.fz (h : Tris E w b sp zs) (i : Nat) : w.frozen? ⟨b, i, none⟩ = false := by unfold Tris at h; simp [World.frozen?, h]
theorem Tris.cells (h : Tris E w b sp zs) (i : Nat) (hi : i < zs.length) : w.cell? ⟨b, i * 3, none⟩ = some (.int .i64 (zs.getD i z0).1) ∧ w.cell? ⟨b, i * 3 + 1, none⟩ = some (.int .i64 (zs.getD i z0).2.1) ∧ w.cell? ⟨b, i * 3 + 2, none⟩ = some (.int .i64 (zs.getD i z0).2.2) := by
 unfold Tris at h
 have h1 := triF_get zs sp i hi
 simp only [World.cell?, h, List.getElem?_toArray]
 exact h1
theorem Tris.drewN (h : Tris E w b sp zs) (n : Nat) : Tris E (w.drewN n) b sp zs := h
theorem Tris.drew (h : Tris E w b sp zs) : Tris E w.drew b sp zs := h
theorem Tris.keep {S : List Nat} (h : Tris E w b sp zs) (k : Keeps S w w') (hs : b ∉ S) : Tris E w' b sp zs := k.heap h hs
def put3 (w : World) (b o : Nat) (t : Tri) : World := ((w.setCell ⟨b, o, none⟩ (.int .i64 t.1)).setCell ⟨b, o + 1, none⟩ (.int .i64 t.2.1)).setCell ⟨b, o + 2, none⟩ (.int .i64 t.2.2)
theorem Tris.set (h : Tris E w b sp zs) (i : Nat) (hi : i < zs.length) (t : Tri) : Tris E (put3 w b (i * 3) t) b sp (zs.set i t) := by
 have e1 := heap_setCell_same w b (i * 3) _ E (.int .i64 t.1) h
 have e2 := heap_setCell_same _ b (i * 3 + 1) _ E (.int .i64 t.2.1) e1
 have e3 := heap_setCell_same _ b (i * 3 + 2) _ E (.int .i64 t.2.2) e2
 unfold Tris put3
 rw [e3, ← triF_set zs sp i t hi]
 congr 2
 apply Array.ext'
 simp
theorem Keeps.put3 {S : List Nat} {a : World} (h : Keeps S a w) (hb : b ∈ S ∨ a.heap.size ≤ b) (o : Nat) (t : Tri) : Keeps S a (put3 w b o t) :=
 ((h.setCell (p := ⟨b, o, none⟩) hb _).setCell (p := ⟨b, o + 1, none⟩) hb _).setCell (p := ⟨b, o + 2, none⟩) hb _
theorem Tris.swp (h : Tris E w b sp zs) (i j : Nat) (hi : i < zs.length) (hj : j < zs.length) : Tris E (Go.Proofs.YtkekenaamnhbhaaGreat.put3 (Go.Proofs.YtkekenaamnhbhaaGreat.put3 w b (i * 3) (zs.getD j z0)) b (j * 3) (zs.getD i z0)) b sp (swp zs i j) :=
 (h.set i hi _).set j (by simpa using hj) _
end
def swpR (xs : List Tri) (a b : Nat) : Nat → List Tri
 | 0 => xs
 | n + 1 => swp (swpR xs a b n) (a + n) (b + n)
theorem swpR_length (xs : List Tri) (a b n : Nat) : (swpR xs a b n).length = xs.length := by
 induction n with
 | zero => rfl
 | succ n ih => rw [swpR, swp_length, ih]
theorem swpR_get (xs : List Tri) (a b n : Nat) (h1 : a + n ≤ b) (h2 : b + n ≤ xs.length) (k : Nat) :
  (swpR xs a b n).getD k z0 = if a ≤ k ∧ k < a + n then xs.getD (k - a + b) z0 else if b ≤ k ∧ k < b + n then xs.getD (k - b + a) z0 else xs.getD k z0 := by
 induction n generalizing k with
 | zero => rw [swpR, if_neg (by omega), if_neg (by omega)]
 | succ n ih =>
  rw [swpR, swp_get _ _ _ _ (by rw [swpR_length]; omega) (by rw [swpR_length]; omega)]
  have ih' := fun k => ih (by omega) (by omega) k
  by_cases e1 : k = b + n
  ·rw [if_pos e1, ih', if_neg (by omega), if_neg (by omega), if_neg (by omega), if_pos (by omega)]
   congr 1; omega
  ·rw [if_neg e1]
   by_cases e2 : k = a + n
   ·rw [if_pos e2, ih', if_neg (by omega), if_neg (by omega), if_pos (by omega)]
    congr 1; omega
   ·rw [if_neg e2, ih']
    by_cases c1 : a ≤ k ∧ k < a + n
    ·rw [if_pos c1, if_pos (by omega)]
    ·rw [if_neg c1]
     by_cases c2 : b ≤ k ∧ k < b + n
     ·rw [if_pos c2, if_neg (by omega), if_pos (by omega)]
     ·rw [if_neg c2, if_neg (by omega), if_neg (by omega)]
theorem swpR_perm (xs : List Tri) (a b n : Nat) (h1 : a + n ≤ xs.length) (h2 : b + n ≤ xs.length) : (swpR xs a b n).Perm xs := by
 induction n with
 | zero => exact .refl _
 | succ n ih => exact (swp_perm _ _ _ (by rw [swpR_length]; omega) (by rw [swpR_length]; omega)).trans (ih (by omega) (by omega))
def rotF (xs : List Tri) (a m b k : Nat) : Tri := if k < a + (b - m) then xs.getD (k - a + m) z0 else xs.getD (k - (b - m)) z0
structure RotI (xs zs : List Tri) (a m b i j : Nat) : Prop where
 i0 : 0 < i
 j0 : 0 < j
 ia : a + i ≤ m
 jb : m + j ≤ b
 perm : zs.Perm xs
 out : ∀ k, k < a ∨ b ≤ k → zs.getD k z0 = xs.getD k z0
 lo : ∀ k, a ≤ k → k + i < m → zs.getD k z0 = rotF xs a m b k
 hi : ∀ k, m + j ≤ k → k < b → zs.getD k z0 = rotF xs a m b k
 l : ∀ k, m ≤ k + i → k + i < m + j → rotF xs a m b k = zs.getD (k + i) z0
 r : ∀ k, m + j ≤ k + i → k < m + j → rotF xs a m b k = zs.getD (k - j) z0
theorem RotI.start (xs : List Tri) (a m b : Nat) (h1 : a < m) (h2 : m < b) : RotI xs xs a m b (m - a) (b - m) := by
 refine ⟨by omega, by omega, by omega, by omega, .refl _, fun _ _ => rfl, fun k h3 h4 => by omega, fun k h3 h4 => by omega, fun k h3 h4 => ?_, fun k h3 h4 => ?_⟩
 ·rw [rotF, if_pos (by omega)]; congr 1; omega
 ·rw [rotF, if_neg (by omega)]
theorem RotI.more {xs zs : List Tri} {a m b i j : Nat} (h : RotI xs zs a m b i j) (hb : b ≤ zs.length) (hij : j < i) : RotI xs (swpR zs (m - i) m j) a m b (i - j) j := by
 have hg := swpR_get zs (m - i) m j (by have := h.ia; omega) (by have := h.jb; omega)
 have h1 := h.ia
 have h2 := h.jb
 have h3 := h.j0
 refine ⟨by omega, h3, by omega, h2, (swpR_perm _ _ _ _ (by omega) (by omega)).trans h.perm, fun k hk => ?_, fun k hk hk2 => ?_, fun k hk hk2 => ?_, fun k hk hk2 => ?_, fun k hk hk2 => ?_⟩
 ·rw [hg, if_neg (by omega), if_neg (by omega)]; exact h.out k hk
 ·rw [hg]
  by_cases c : m ≤ k + i
  ·rw [if_pos (by omega), h.l k (by omega) (by omega)]; congr 1; omega
  ·rw [if_neg (by omega), if_neg (by omega)]; exact h.lo k hk (by omega)
 ·rw [hg, if_neg (by omega), if_neg (by omega)]; exact h.hi k hk hk2
 ·rw [hg, h.r k (by omega) (by omega)]
  by_cases c : k + i < m + j + j
  ·rw [if_neg (by omega)]
   by_cases c2 : m ≤ k + (i - j)
   ·rw [if_pos (by omega)]; congr 1; omega
   ·omega
  ·omega
 ·rw [hg, h.r k (by omega) (by omega)]
  rw [if_neg (by omega), if_neg (by omega)]
theorem RotI.less {xs zs : List Tri} {a m b i j : Nat} (h : RotI xs zs a m b i j) (hb : b ≤ zs.length) (hij : i < j) : RotI xs (swpR zs (m - i) (m + j - i) i) a m b i (j - i) := by
 have hg := swpR_get zs (m - i) (m + j - i) i (by have := h.ia; omega) (by have := h.jb; have := h.ia; omega)
 have h1 := h.ia
 have h2 := h.jb
 have h3 := h.i0
 refine ⟨h3, by omega, h1, by omega, (swpR_perm _ _ _ _ (by omega) (by omega)).trans h.perm, fun k hk => ?_, fun k hk hk2 => ?_, fun k hk hk2 => ?_, fun k hk hk2 => ?_, fun k hk hk2 => ?_⟩
 ·rw [hg, if_neg (by omega), if_neg (by omega)]; exact h.out k hk
 ·rw [hg, if_neg (by omega), if_neg (by omega)]; exact h.lo k hk hk2
 ·rw [hg, if_neg (by omega)]
  by_cases c : k < m + j
  ·rw [if_pos (by omega), h.r k (by omega) c]; congr 1; omega
  ·rw [if_neg (by omega)]; exact h.hi k (by omega) hk2
 ·rw [hg, h.l k (by omega) (by omega)]
  rw [if_neg (by omega), if_neg (by omega)]
 ·rw [hg, h.l k (by omega) (by omega)]
  rw [if_pos (by omega)]; congr 1; omega
theorem RotI.done {xs zs : List Tri} {a m b i : Nat} (h : RotI xs zs a m b i i) (hb : b ≤ zs.length) : (swpR zs (m - i) m i).Perm xs ∧ (∀ k, k < a ∨ b ≤ k → (swpR zs (m - i) m i).getD k z0 = xs.getD k z0) ∧ ∀ k, a ≤ k → k < b → (swpR zs (m - i) m i).getD k z0 = rotF xs a m b k := by
 have hg := swpR_get zs (m - i) m i (by have := h.ia; omega) (by have := h.jb; omega)
 have h1 := h.ia
 have h2 := h.jb
 have h3 := h.i0
 refine ⟨(swpR_perm _ _ _ _ (by omega) (by omega)).trans h.perm, fun k hk => ?_, fun k hk hk2 => ?_⟩
 ·rw [hg, if_neg (by omega), if_neg (by omega)]; exact h.out k hk
 ·rw [hg]
  by_cases c1 : k + i < m
  ·rw [if_neg (by omega), if_neg (by omega)]; exact h.lo k hk c1
  ·by_cases c2 : k < m
   ·rw [if_pos (by omega), h.l k (by omega) (by omega)]; congr 1; omega
   ·rw [if_neg (by omega)]
    by_cases c3 : k < m + i
    ·rw [if_pos (by omega), h.r k (by omega) c3]; congr 1; omega
    ·rw [if_neg (by omega)]; exact h.hi k (by omega) hk2
structure Srch (a m b mid s0 r0 : Nat) : Prop where
 am : a < m
 mb : m < b
 md : mid = (a + b) / 2
 sa : a ≤ s0
 sr : s0 ≤ r0
 rm : r0 ≤ m
 rd : r0 ≤ mid
 pb : mid + m ≤ s0 + b
 s1 : s0 = a ∨ s0 + b = mid + m
 r1 : r0 = m ∨ r0 = mid
theorem Srch.right {a m b : Nat} (h1 : a < m) (h2 : m < b) (h : (a + b) / 2 < m) : Srch a m b ((a + b) / 2) ((a + b) / 2 + m - b) ((a + b) / 2) :=
 ⟨h1, h2, rfl, by omega, by omega, by omega, by omega, by omega, .inr (by omega), .inr rfl⟩
theorem Srch.left {a m b : Nat} (h1 : a < m) (h2 : m < b) (h : m ≤ (a + b) / 2) : Srch a m b ((a + b) / 2) a m :=
 ⟨h1, h2, rfl, by omega, by omega, by omega, by omega, by omega, .inl rfl, .inl rfl⟩
theorem Desc.le {key : Tri → Int} {xs : List Tri} {a b : Nat} (h : Desc key xs a b) (p q : Nat) (h1 : a ≤ p) (h2 : p ≤ q) (h3 : q < b) : key (xs.getD q z0) ≤ key (xs.getD p z0) := by
 by_cases e : p = q
 ·rw [e]; exact Int.le_refl _
 ·exact h p q h1 (by omega) h3
theorem Srch.up {key : Tri → Int} {xs : List Tri} {a m b mid s0 r0 : Nat} (S : Srch a m b mid s0 r0) (d1 : Desc key xs a m) (d2 : Desc key xs m b) (h : Nat) (_h1 : s0 ≤ h) (h2 : h < r0) (hk : key (xs.getD (mid + m - 1 - h) z0) ≤ key (xs.getD h z0)) :
  ∀ k, s0 ≤ k → k ≤ h → key (xs.getD (mid + m - 1 - k) z0) ≤ key (xs.getD k z0) := by
 have ⟨_, _, _, _, _, _, _, _, _, _⟩ := S
 intro k k1 k2
 exact Int.le_trans (d2.le (mid + m - 1 - h) (mid + m - 1 - k) (by omega) (by omega) (by omega)) (Int.le_trans hk (d1.le k h (by omega) (by omega) (by omega)))
theorem Srch.dn {key : Tri → Int} {xs : List Tri} {a m b mid s0 r0 : Nat} (S : Srch a m b mid s0 r0) (d1 : Desc key xs a m) (d2 : Desc key xs m b) (h : Nat) (h1 : s0 ≤ h) (_h2 : h < r0) (hk : key (xs.getD h z0) < key (xs.getD (mid + m - 1 - h) z0)) :
  ∀ k, h ≤ k → k < r0 → key (xs.getD k z0) < key (xs.getD (mid + m - 1 - k) z0) := by
 have ⟨_, _, _, _, _, _, _, _, _, _⟩ := S
 intro k k1 k2
 exact Int.lt_of_le_of_lt (d1.le h k (by omega) (by omega) (by omega)) (Int.lt_of_lt_of_le hk (d2.le (mid + m - 1 - k) (mid + m - 1 - h) (by omega) (by omega) (by omega)))
structure Cut (key : Tri → Int) (xs : List Tri) (a m b mid st en : Nat) : Prop where
 sa : a ≤ st
 sm : st ≤ m
 sd : st ≤ mid
 me : m ≤ en
 eb : en ≤ b
 de : mid ≤ en
 sum : en + st = mid + m
 f1 : ∀ l r, a ≤ l → l < st → en ≤ r → r < b → key (xs.getD r z0) ≤ key (xs.getD l z0)
 f2 : ∀ l r, m ≤ l → l < en → st ≤ r → r < m → key (xs.getD r z0) < key (xs.getD l z0)
theorem Srch.cut {key : Tri → Int} {xs : List Tri} {a m b mid s0 r0 : Nat} (S : Srch a m b mid s0 r0) (d1 : Desc key xs a m) (d2 : Desc key xs m b) (st : Nat) (h1 : s0 ≤ st) (h2 : st ≤ r0)
  (lo : ∀ k, s0 ≤ k → k < st → key (xs.getD (mid + m - 1 - k) z0) ≤ key (xs.getD k z0)) (hi : ∀ k, st ≤ k → k < r0 → key (xs.getD k z0) < key (xs.getD (mid + m - 1 - k) z0)) : Cut key xs a m b mid st (mid + m - st) := by
 have ⟨am, mb, md, sa, sr, rm, rd, pb, s1, r1⟩ := S
 refine ⟨by omega, by omega, by omega, by omega, by omega, by omega, by omega, fun l r l1 l2 r1' r2 => ?_, fun l r l1 l2 r1' r2 => ?_⟩
 ·by_cases e : s0 < st
  ·have := lo (st - 1) (by omega) (by omega)
   rw [show mid + m - 1 - (st - 1) = mid + m - st by omega] at this
   exact Int.le_trans (d2.le (mid + m - st) r (by omega) r1' r2) (Int.le_trans this (d1.le l (st - 1) l1 (by omega) (by omega)))
  ·rcases s1 with s1 | s1 <;> omega
 ·by_cases e : st < r0
  ·have := hi st (by omega) e
   exact Int.lt_of_le_of_lt (d1.le st r (by omega) r1' r2) (Int.lt_of_lt_of_le this (d2.le l (mid + m - 1 - st) l1 (by omega) (by omega)))
  ·rcases r1 with r1 | r1 <;> omega
def src (st m en k : Nat) : Nat := if k < st then k else if k < st + (en - m) then k - st + m else if k < en then k - (en - m) else k
structure Rotd (xs zs : List Tri) (st m en : Nat) : Prop where
 perm : zs.Perm xs
 get : ∀ k, zs.getD k z0 = xs.getD (src st m en k) z0
theorem Rotd.of {xs zs : List Tri} {st m en : Nat} (hm : m ≤ en) (hp : zs.Perm xs) (h1 : ∀ k, k < st ∨ en ≤ k → zs.getD k z0 = xs.getD k z0) (h2 : ∀ k, st ≤ k → k < en → zs.getD k z0 = rotF xs st m en k) (hs : st ≤ m) : Rotd xs zs st m en := by
 refine ⟨hp, fun k => ?_⟩
 unfold src
 by_cases c1 : k < st
 ·rw [if_pos c1]; exact h1 k (.inl c1)
 ·rw [if_neg c1]
  by_cases c2 : k < st + (en - m)
  ·rw [if_pos c2, h2 k (by omega) (by omega), rotF, if_pos c2]
  ·rw [if_neg c2]
   by_cases c3 : k < en
   ·rw [if_pos c3, h2 k (by omega) c3, rotF, if_neg c2]
   ·rw [if_neg c3]; exact h1 k (.inr (by omega))
theorem Rotd.same {xs : List Tri} {st m en : Nat} (h : st = m ∨ en = m) : Rotd xs xs st m en := by
 refine ⟨.refl _, fun k => ?_⟩
 congr 1
 unfold src
 split
 ·rfl
 ·split
  ·rcases h with h | h <;> omega
  ·split
   ·rcases h with h | h <;> omega
   ·rfl
structure Halves (key : Tri → Int) (xs zs : List Tri) (a m b mid st en : Nat) : Prop where
 turned : Turned xs zs a b
 d1 : Desc key zs a st
 d2 : Desc key zs st mid
 d3 : Desc key zs mid en
 d4 : Desc key zs en b
 cross : ∀ p q, a ≤ p → p < mid → mid ≤ q → q < b → key (zs.getD q z0) ≤ key (zs.getD p z0)
theorem Cut.halves {key : Tri → Int} {xs zs : List Tri} {a m b mid st en : Nat} (C : Cut key xs a m b mid st en) (d1 : Desc key xs a m) (d2 : Desc key xs m b) (R : Rotd xs zs st m en) : Halves key xs zs a m b mid st en := by
 have ⟨sa, sm, sd, me, eb, de, sum, f1, f2⟩ := C
 have e1 : ∀ k, k < st → zs.getD k z0 = xs.getD k z0 := fun k h => by rw [R.get, src, if_pos h]
 have e2 : ∀ k, st ≤ k → k < mid → zs.getD k z0 = xs.getD (k - st + m) z0 := fun k h h' => by rw [R.get, src, if_neg (by omega), if_pos (by omega)]
 have e3 : ∀ k, mid ≤ k → k < en → zs.getD k z0 = xs.getD (k - (en - m)) z0 := fun k h h' => by rw [R.get, src, if_neg (by omega), if_neg (by omega), if_pos h']
 have e4 : ∀ k, en ≤ k → zs.getD k z0 = xs.getD k z0 := fun k h => by rw [R.get, src, if_neg (by omega), if_neg (by omega), if_neg (by omega)]
 refine ⟨⟨R.perm, fun k hk => ?_⟩, fun p q h1 h2 h3 => ?_, fun p q h1 h2 h3 => ?_, fun p q h1 h2 h3 => ?_, fun p q h1 h2 h3 => ?_, fun p q h1 h2 h3 h4 => ?_⟩
 ·rcases hk with hk | hk
  ·exact e1 k (by omega)
  ·exact e4 k (by omega)
 ·rw [e1 p (by omega), e1 q h3]; exact d1 p q h1 h2 (by omega)
 ·rw [e2 p h1 (by omega), e2 q (by omega) h3]; exact d2 _ _ (by omega) (by omega) (by omega)
 ·rw [e3 p h1 (by omega), e3 q (by omega) h3]; exact d1 _ _ (by omega) (by omega) (by omega)
 ·rw [e4 p h1, e4 q (by omega)]; exact d2 p q (by omega) h2 h3
 ·by_cases c1 : p < st
  ·rw [e1 p c1]
   by_cases c2 : q < en
   ·rw [e3 q h3 c2]; exact d1.le p _ h1 (by omega) (by omega)
   ·rw [e4 q (by omega)]; exact f1 p q h1 c1 (by omega) h4
  ·rw [e2 p (by omega) h2]
   by_cases c2 : q < en
   ·rw [e3 q h3 c2]; exact Int.le_of_lt (f2 _ _ (by omega) (by omega) (by omega) (by omega))
   ·rw [e4 q (by omega)]; exact d2.le _ q (by omega) (by omega) h4
theorem take_eq {xs ys : List Tri} (a : Nat) (hl : xs.length = ys.length) (h : ∀ k, k < a → xs.getD k z0 = ys.getD k z0) : xs.take a = ys.take a := by
 apply ext_getD (by simp [hl])
 intro k hk
 simp at hk
 have hka : k < a := by omega
 have := h k hka
 simpa [List.getD_eq_getElem?_getD, List.getElem?_take, hka] using this
theorem drop_eq {xs ys : List Tri} (b : Nat) (hl : xs.length = ys.length) (h : ∀ k, b ≤ k → xs.getD k z0 = ys.getD k z0) : xs.drop b = ys.drop b := by
 apply ext_getD (by simp [hl])
 intro k hk
 have := h (b + k) (by omega)
 simpa [List.getD_eq_getElem?_getD, List.getElem?_drop] using this
theorem Turned.sub {xs ys : List Tri} {a b : Nat} (h : Turned xs ys a b) (hab : a ≤ b) (p : Nat) (h1 : a ≤ p) (h2 : p < b) (hb : b ≤ xs.length) : ∃ k, a ≤ k ∧ k < b ∧ ys.getD p z0 = xs.getD k z0 := by
 have hl := h.len
 have t1 := take_eq a hl (fun k hk => h.out k (.inl hk))
 have t2 := drop_eq b hl (fun k hk => h.out k (.inr hk))
 have hp := h.perm
 have sx : xs = xs.take a ++ ((xs.drop a).take (b - a) ++ xs.drop b) := by
  have : xs.drop b = (xs.drop a).drop (b - a) := by rw [List.drop_drop]; congr 1; omega
  rw [this, List.take_append_drop, List.take_append_drop]
 have sy : ys = ys.take a ++ ((ys.drop a).take (b - a) ++ ys.drop b) := by
  have : ys.drop b = (ys.drop a).drop (b - a) := by rw [List.drop_drop]; congr 1; omega
  rw [this, List.take_append_drop, List.take_append_drop]
 rw [sx, sy, t1, t2, List.perm_append_left_iff, List.perm_append_right_iff] at hp
 have hm : ys.getD p z0 ∈ (ys.drop a).take (b - a) := by
  rw [List.mem_iff_getElem?]
  refine ⟨p - a, ?_⟩
  rw [List.getElem?_take, if_pos (by omega), List.getElem?_drop, show a + (p - a) = p by omega, List.getElem?_eq_getElem (by omega), List.getD_eq_getElem?_getD, List.getElem?_eq_getElem (by omega)]
  rfl
 have hm2 := hp.mem_iff.1 hm
 rw [List.mem_iff_getElem?] at hm2
 obtain ⟨k, hk⟩ := hm2
 by_cases c : k < b - a
 ·rw [List.getElem?_take, if_pos c, List.getElem?_drop] at hk
  exact ⟨a + k, by omega, by omega, by rw [List.getD_eq_getElem?_getD (l := xs), hk]; rfl⟩
 ·rw [List.getElem?_take, if_neg c] at hk; cases hk
theorem Halves.done {key : Tri → Int} {xs zs y1 y2 : List Tri} {a m b mid st en : Nat} (H : Halves key xs zs a m b mid st en) (ham : a ≤ mid) (hmb : mid ≤ b) (hb : b ≤ xs.length) (t1 : Turned zs y1 a mid) (t2 : Turned y1 y2 mid b) (d1 : Desc key y1 a mid) (d2 : Desc key y2 mid b) :
  Turned xs y2 a b ∧ Desc key y2 a b := by
 refine ⟨H.turned.trans ((t1.mono (Nat.le_refl _) hmb).trans (t2.mono ham (Nat.le_refl _))), fun p q h1 h2 h3 => ?_⟩
 have l0 := H.turned.len
 have l1 := t1.len
 by_cases c1 : q < mid
 ·rw [t2.out p (by omega), t2.out q (by omega)]; exact d1 p q h1 h2 c1
 ·by_cases c2 : mid ≤ p
  ·exact d2 p q c2 h2 h3
  ·rw [t2.out p (by omega)]
   obtain ⟨k, k1, k2, k3⟩ := t1.sub ham p h1 (by omega) (by omega)
   obtain ⟨j, j1, j2, j3⟩ := t2.sub hmb q (by omega) h3 (by omega)
   rw [k3, j3, t1.out j (by omega)]
   exact H.cross k j k1 k2 j1 j2
structure Ride (key : Tri → Int) (xs ys : List Tri) (a b k : Nat) : Prop where
 turned : Turned xs ys a b
 pas : ∀ t, a ≤ t → t < k → ys.getD t z0 = xs.getD (t + 1) z0
 cur : ys.getD k z0 = xs.getD a z0
 rest : ∀ t, k < t → ys.getD t z0 = xs.getD t z0
theorem Ride.start {key : Tri → Int} {xs : List Tri} {a b : Nat}  : Ride key xs xs a b a :=
 ⟨Turned.refl _ _ _, fun t h1 h2 => by omega, rfl, fun _ _ => rfl⟩
theorem Ride.step {key : Tri → Int} {xs ys : List Tri} {a b i k : Nat} (h : Ride key xs ys a b k) (ha : a ≤ k) (hk : k + 1 < i) (hi : i ≤ b) (hb : b ≤ xs.length) (hlo : ∀ t, a + 1 ≤ t → t < i → key (xs.getD a z0) < key (xs.getD t z0)) : Ride key xs (swp ys k (k + 1)) a b (k + 1) := by
 have hl := h.turned.len
 have hr := h.rest (k + 1) (by omega)
 have hx := hlo (k + 1) (by omega) hk
 have hg := fun t => swp_get ys k (k + 1) t (by omega) (by omega)
 refine ⟨h.turned.trans (Turned.swp _ _ _ _ _ (by omega) (by omega) (by omega) (by omega) (by omega) (by omega)), fun t h1 h2 => ?_, ?_, fun t h1 => ?_⟩
 ·rw [hg, if_neg (by omega)]
  by_cases e : t = k
  ·rw [if_pos e, hr, e]
  ·rw [if_neg e]; exact h.pas t h1 (by omega)
 ·rw [hg, if_pos rfl]; exact h.cur
 ·rw [hg, if_neg (by omega), if_neg (by omega)]; exact h.rest t (by omega)
theorem Ride.done {key : Tri → Int} {xs ys : List Tri} {a b i k : Nat} (h : Ride key xs ys a b k) (ha : a ≤ k) (hk : k + 1 = i) (hib : i ≤ b) (hd : Desc key xs (a + 1) b) (hlo : ∀ t, a + 1 ≤ t → t < i → key (xs.getD a z0) < key (xs.getD t z0))
  (hhi : ∀ t, i ≤ t → t < b → key (xs.getD t z0) ≤ key (xs.getD a z0)) : Desc key ys a b := by
 intro p q h1 h2 h3
 rcases Nat.lt_trichotomy q k with c | c | c
 ·rw [h.pas p h1 (by omega), h.pas q (by omega) c]; exact hd _ _ (by omega) (by omega) (by omega)
 ·rw [c, h.cur, h.pas p h1 (by omega)]; exact Int.le_of_lt (hlo _ (by omega) (by omega))
 ·rw [h.rest q c]
  rcases Nat.lt_trichotomy p k with d | d | d
  ·rw [h.pas p h1 d]
   by_cases e : p + 1 = q
   ·rw [e]; exact Int.le_refl _
   ·exact hd _ _ (by omega) (by omega) h3
  ·rw [d, h.cur]; exact hhi q (by omega) h3
  ·rw [h.rest p d]; exact hd p q (by omega) h2 h3
structure RideB (key : Tri → Int) (xs ys : List Tri) (a m k : Nat) : Prop where
 turned : Turned xs ys a (m + 1)
 pas : ∀ t, k < t → t ≤ m → ys.getD t z0 = xs.getD (t - 1) z0
 cur : ys.getD k z0 = xs.getD m z0
 rest : ∀ t, t < k → ys.getD t z0 = xs.getD t z0
theorem RideB.start {key : Tri → Int} {xs : List Tri} {a m : Nat}  : RideB key xs xs a m m :=
 ⟨Turned.refl _ _ _, fun t h1 h2 => by omega, rfl, fun _ _ => rfl⟩
theorem RideB.step {key : Tri → Int} {xs ys : List Tri} {a m i k : Nat} (h : RideB key xs ys a m (k + 1)) (ha : a ≤ i) (hk : i ≤ k) (hm : k < m) (hb : m + 1 ≤ xs.length) (hhi : ∀ t, i ≤ t → t < m → key (xs.getD t z0) < key (xs.getD m z0)) : RideB key xs (swp ys (k + 1) k) a m k := by
 have hl := h.turned.len
 have hr := h.rest k (by omega)
 have hx := hhi k hk hm
 have hg := fun t => swp_get ys k (k + 1) t (by omega) (by omega)
 rw [swp_comm _ _ _ (by omega) (by omega)]
 refine ⟨h.turned.trans (Turned.swp _ _ _ _ _ (by omega) (by omega) (by omega) (by omega) (by omega) (by omega)), fun t h1 h2 => ?_, ?_, fun t h1 => ?_⟩
 ·rw [hg]
  by_cases e : t = k + 1
  ·rw [if_pos e, hr, e]; rfl
  ·rw [if_neg e, if_neg (by omega)]; exact h.pas t (by omega) h2
 ·rw [hg, if_neg (by omega), if_pos rfl]; exact h.cur
 ·rw [hg, if_neg (by omega), if_neg (by omega)]; exact h.rest t (by omega)
theorem RideB.done {key : Tri → Int} {xs ys : List Tri} {a m i : Nat} (h : RideB key xs ys a m i) (hai : a ≤ i) (hi : i ≤ m) (hd : Desc key xs a m) (hlo : ∀ t, a ≤ t → t < i → key (xs.getD m z0) ≤ key (xs.getD t z0))
  (hhi : ∀ t, i ≤ t → t < m → key (xs.getD t z0) < key (xs.getD m z0)) : Desc key ys a (m + 1) := by
 intro p q h1 h2 h3
 rcases Nat.lt_trichotomy p i with c | c | c
 ·rw [h.rest p c]
  rcases Nat.lt_trichotomy q i with d | d | d
  ·rw [h.rest q d]; exact hd p q h1 h2 (by omega)
  ·rw [d, h.cur]; exact hlo p h1 c
  ·rw [h.pas q d (by omega)]
   by_cases e : p = q - 1
   ·rw [e]; exact Int.le_refl _
   ·exact hd _ _ h1 (by omega) (by omega)
 ·rw [c, h.cur, h.pas q (by omega) (by omega)]; exact Int.le_of_lt (hhi _ (by omega) (by omega))
 ·rw [h.pas p c (by omega), h.pas q (by omega) (by omega)]; exact hd _ _ (by omega) (by omega) (by omega)
theorem mem_getD {xs : List Tri} {i : Nat} (h : i < xs.length) : xs.getD i z0 ∈ xs := by
 rw [List.getD_eq_getElem?_getD, List.getElem?_eq_getElem h]; simp
def Blk (key : Tri → Int) (xs : List Tri) (s e : Nat) : Prop := ∀ j p q, s * j ≤ p → p < q → q < s * (j + 1) → q < e → key (xs.getD q z0) ≤ key (xs.getD p z0)
theorem Blk.add {key : Tri → Int} {xs ys : List Tri} {s k a e : Nat} (h : Blk key xs s a) (ha : a = s * k) (t : Turned xs ys a e) (he : e ≤ s * (k + 1)) (d : Desc key ys a e) : Blk key ys s e := by
 subst ha
 intro j p q h1 h2 h3 h4
 by_cases c : q < s * k
 ·rw [t.out p (.inl (by omega)), t.out q (.inl c)]; exact h j p q h1 h2 h3 c
 ·have a1 : k < j + 1 := Nat.lt_of_mul_lt_mul_left (a := s) (by omega)
  have a2 : j < k + 1 := Nat.lt_of_mul_lt_mul_left (a := s) (by omega)
  obtain rfl : j = k := by omega
  exact d p q h1 h2 h4
theorem Blk.desc {key : Tri → Int} {xs : List Tri} {s e : Nat} (h : Blk key xs s e) (he : e ≤ s) : Desc key xs 0 e :=
 fun p q _ h2 h3 => h 0 p q (by simp) h2 (by simp; omega) h3
def BlkF (key : Tri → Int) (xs : List Tri) (s a n : Nat) : Prop := ∀ j p q, s * j ≤ p → p < q → q < s * (j + 1) → q < n → a ≤ p → key (xs.getD q z0) ≤ key (xs.getD p z0)
theorem Blk.from {key : Tri → Int} {xs : List Tri} {s n : Nat} (h : Blk key xs s n) : BlkF key xs s 0 n := fun j p q h1 h2 h3 h4 _ => h j p q h1 h2 h3 h4
theorem BlkF.take {key : Tri → Int} {xs : List Tri} {s a n : Nat} (h : BlkF key xs s a n) (j lo hi : Nat) (h1 : s * j = lo) (h2 : hi ≤ lo + s) (h3 : hi ≤ n) (h4 : a ≤ lo) : Desc key xs lo hi := by
 intro p q p1 p2 p3
 have : s * (j + 1) = s * j + s := Nat.mul_succ _ _
 exact h j p q (by omega) p2 (by omega) (by omega) (by omega)
theorem BlkF.keep {key : Tri → Int} {xs ys : List Tri} {s a b n : Nat} (h : BlkF key xs s a n) (t : Turned xs ys a b) (hab : a ≤ b) : BlkF key ys s b n := by
 intro j p q h1 h2 h3 h4 h5
 rw [t.out p (.inr h5), t.out q (.inr (by omega))]
 exact h j p q h1 h2 h3 h4 (by omega)
end Go.Proofs.YtkekenaamnhbhaaGreat
