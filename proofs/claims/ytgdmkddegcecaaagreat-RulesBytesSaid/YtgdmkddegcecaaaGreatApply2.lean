/- rules.Apply with the number of a rule. Conditions: the tree lies in memory and is not very big; the rule's own function does what RulePost says. -/
import Derived.Test.YtgdmkddegcecaaaGreatApply
import Derived.Test.YtgdmkddegcecaaaGreatHold
namespace Go.Proofs.YtgdmkddegcecaaaGreat
open Go.RowKit

theorem RulePost.any {w : World} {src : List Nat} {o : Option Tree} {e : Ending} {w' : World} (h : RulePost w src o e w') : ∃ r : MRe, e = .returned (.tuple #[r.val, .bool o.isSome]) ∧ r.tree = o.getD Tree.nil ∧ r.OK w' ∧ Keeps [] w w' ∧ From w.heap.size src r.blocks := by
  cases o with
  | none => exact ⟨MRe.nil, h.1, rfl, MRe.OK.nil _, h.2, by intro b hb; simp [MRe.nil, MRe.blocks, MRe.blocksL, blockIf] at hb⟩
  | some t =>
    obtain ⟨r, he, ht, ho, hk, hf⟩ := h
    exact ⟨r, he, ht, ho, hk, hf⟩

/-- What a rule hands back, in one. -/
def AnyPost (w : World) (src : List Nat) (o : Option Tree) (e : Ending) (w' : World) : Prop := ∃ r : MRe, e = .returned (.tuple #[r.val, .bool o.isSome]) ∧ r.tree = o.getD Tree.nil ∧ r.OK w' ∧ Keeps [] w w' ∧ From w.heap.size src r.blocks
/-- What Apply hands back. -/
def ApplyPost (w : World) (o : Option Tree) (e : Ending) (w' : World) : Prop :=
  ∃ r : MRe, e = .returned (.tuple #[r.val, .bool o.isSome]) ∧ r.tree = o.getD Tree.nil ∧ r.OK w' ∧ Keeps [] w w' ∧ Fresh w.heap.size r.blocks

theorem cell_of_row {w : World} {g T : Nat} {v : Value} (h : w.heap[g]? = some (.cells #[v] T (0, 0))) : w.cell? ⟨g, 0, none⟩ = some v := by
  simp [World.cell?, h]

set_option maxRecDepth 100000 in
set_option maxHeartbeats 8000000 in
theorem apply_rule (r : Nat) (o : Option Tree) (m : MRe) (w : World) (hr : r < 17) (k1 : m.OK w) (he : Enters (ruleFn r)) (hb : ∀ t, o = some t → t.bulk ≤ 1000000)
    (hrule : ∀ W, Keeps [] w W → Calls Tryz.prog (ruleFn r) #[m.val] W (RulePost W m.blocks o)) :
    Calls Tryz.prog 26 #[.int .i64 r, m.val] w (ApplyPost w o) := by
  have hmf : ∀ (fn : Fn) (first cap : Array Value) (w : World), (Instr.makeFunc fn first cap).run Tryz.prog w = .ok (.func fn first cap) w := fun _ _ _ _ => rfl
  have HRU := Lib.hid (fun (W : World) (h : Keeps [] w W) => (show Calls Tryz.prog (ruleFn r) #[m.val] W (AnyPost W m.blocks o) from Calls.mono (hrule W h) fun _ _ h => RulePost.any h))
  have HLT := Lib.hid k1.block_lt
  have HB := Lib.hid hb
  unfold Enters at he
  obtain ⟨op, sa, sc, set, ka, kc, kids, mn, mx, mode, n, neg⟩ := m
  simp only [MRe.val] at HRU ⊢
  obtain ⟨F, hF⟩ : ∃ F, F = ruleFn r := ⟨_, rfl⟩
  rw [← hF] at HRU he
  have HF := Lib.hid hF
  obtain ⟨B, hBe⟩ : ∃ B, B = w.heap.size := ⟨_, rfl⟩
  clear k1 hrule hb hF
  go_enter_defers Tryz.func26, Tryz.ntmps26
  go_wp2_with fail
  refine Calls.mono (table_any _) ?_
  rintro e w2 ⟨g, rfl, htab, hk, hg⟩
  have hz : w2.heap[w.heap.size + 1]? = some (.cells #[.int .i64 0, .slice none 0 0, .slice none 0 0, .int .i64 0, .int .i64 0, .int .i64 0, .int .i64 0, .bool false] 64 (0, 0)) := hk.heap ((Keeps.a1 _ _).heap (heap_alloc2_new w _ _) (by simp)) (by simp)
  have hb : w2.heap[w.heap.size + 2]? = some (.cells #[.bool false] 4 (0, 0)) := hk.heap (by have h := heap_alloc_new ((w.alloc (.cells #[.int .i64 op, .slice sa set.length sc, .slice ka kids.length kc, .int .i64 mn, .int .i64 mx, .int .i64 mode, .int .i64 n, .bool neg] 64)).alloc (.cells #[.int .i64 0, .slice none 0 0, .slice none 0 0, .int .i64 0, .int .i64 0, .int .i64 0, .int .i64 0, .bool false] 64)) (.cells #[.bool false] 4); simpa using h) (by simp)
  have hx : w2.heap[w.heap.size]? = some (.cells #[.int .i64 op, .slice sa set.length sc, .slice ka kids.length kc, .int .i64 mn, .int .i64 mx, .int .i64 mode, .int .i64 n, .bool neg] 64 (0, 0)) := hk.heap ((Keeps.a2 (w.alloc (.cells #[.int .i64 op, .slice sa set.length sc, .slice ka kids.length kc, .int .i64 mn, .int .i64 mx, .int .i64 mode, .int .i64 n, .bool neg] 64)) _ _).heap (heap_alloc_new w _) (by simp)) (by simp)
  have hs2 : w.heap.size + 3 ≤ w2.heap.size := by have := hk.size; simpa using this
  have hgB : w.heap.size + 3 ≤ g := by simpa using hg
  have K2 := Lib.hid ((Keeps.a3 w _ _ _).trans hk)
  rw [← hBe] at hz hb hx hs2 hgB ⊢
  obtain ⟨c0, c1, c2, c3, c4, c5, c6, c7⟩ := row_cells hx
  have ht := table_cell htab r hr
  rw [← HF.out] at ht
  have HZ := Lib.hid hz
  have HBL := Lib.hid hb
  have HBE := Lib.hid hBe
  have hr0 : (0 : Int) ≤ (r : Int) := by omega
  have hr1 : ¬ (r : Int) < 0 := by omega
  have hr2 : (r : Int) < 17 := by omega
  have hr3 : ¬ (17 : Int) ≤ (r : Int) := by omega
  have HGB := Lib.hid hgB
  have HS2 := Lib.hid hs2
  clear htab hk hg hz hb hBe hx hgB hs2
  go_upto_region 5 with fail
  go_cut [7] from 19 to 28 (fun s7 wx => ∃ (g7 : Nat) (r : MRe) (V : World), V = wx ∧ s7 = .pointer (some ⟨g7, 0, none⟩) ∧ r.tree = o.getD .nil ∧ r.OK V ∧ Keeps [B + 2] w2 V ∧ V.heap[g7]? = some (.cells r.row.toArray 64 (0, 0)) ∧ V.heap[B + 2]? = some (.cells #[.bool o.isSome] 4 (0, 0)) ∧ w2.heap.size ≤ g7)
  case first =>
    refine wp_region_noPanic ?_
    refine wp_region_held_drew (S := fun w' => w'.cell? ⟨g, r * 2 + 1, none⟩ = some (.func (Fn.func F) #[] #[]) ∧ (w'.cell? ⟨B, 0, none⟩ = some (.int .i64 op) ∧ w'.cell? ⟨B, 1, none⟩ = some (.slice sa set.length sc) ∧ w'.cell? ⟨B, 2, none⟩ = some (.slice ka kids.length kc) ∧ w'.cell? ⟨B, 3, none⟩ = some (.int .i64 mn) ∧ w'.cell? ⟨B, 4, none⟩ = some (.int .i64 mx) ∧ w'.cell? ⟨B, 5, none⟩ = some (.int .i64 mode) ∧ w'.cell? ⟨B, 6, none⟩ = some (.int .i64 n) ∧ w'.cell? ⟨B, 7, none⟩ = some (.bool neg))) (by kernel_rfl) ⟨ht, c0, c1, c2, c3, c4, c5, c6, c7⟩ (fun hHeld => ?_)
    refine take_on (i := 0) (v := ?_) rfl (by kernel_rfl) (by kernel_rfl) (by kernel_rfl) (fun _ _ _ h => h) (by rfl) (by assumption) ?_ ?_
    rotate_left
    · ((intro w hSw; (try dsimp only at hSw); go_simp <;> with_reducible rfl); done)
    try simp only [Act.put, List.setIfInBounds_toArray, List.set_cons_zero, List.set_cons_succ]
    refine take_on (i := 1) (v := ?_) rfl (by kernel_rfl) (by kernel_rfl) (by kernel_rfl) (fun _ _ _ h => h) (by rfl) (by assumption) ?_ ?_
    rotate_left
    · ((intro w hSw; (try dsimp only at hSw); go_simp <;> with_reducible rfl); done)
    try simp only [Act.put, List.setIfInBounds_toArray, List.set_cons_zero, List.set_cons_succ]
    refine take_on (i := 2) (v := ?_) rfl (by kernel_rfl) (by kernel_rfl) (by kernel_rfl) (fun _ _ _ h => h) (by rfl) (by assumption) ?_ ?_
    rotate_left
    · ((intro w hSw; (try dsimp only at hSw); go_simp <;> with_reducible rfl); done)
    try simp only [Act.put, List.setIfInBounds_toArray, List.set_cons_zero, List.set_cons_succ]
    refine take_on (i := 3) (v := ?_) rfl (by kernel_rfl) (by kernel_rfl) (by kernel_rfl) (fun _ _ _ h => h) (by rfl) (by assumption) ?_ ?_
    rotate_left
    · ((intro w hSw; (try dsimp only at hSw); go_simp <;> with_reducible rfl); done)
    try simp only [Act.put, List.setIfInBounds_toArray, List.set_cons_zero, List.set_cons_succ]
    refine take_on (i := 4) (v := ?_) rfl (by kernel_rfl) (by kernel_rfl) (by kernel_rfl) (fun _ _ _ h => h) (by rfl) (by assumption) ?_ ?_
    rotate_left
    · ((intro w hSw; (try dsimp only at hSw); go_simp <;> with_reducible rfl); done)
    try simp only [Act.put, List.setIfInBounds_toArray, List.set_cons_zero, List.set_cons_succ]
    refine take_on (i := 5) (v := ?_) rfl (by kernel_rfl) (by kernel_rfl) (by kernel_rfl) (fun _ _ _ h => h) (by rfl) (by assumption) ?_ ?_
    rotate_left
    · ((intro w hSw; (try dsimp only at hSw); go_simp <;> with_reducible rfl); done)
    try simp only [Act.put, List.setIfInBounds_toArray, List.set_cons_zero, List.set_cons_succ]
    refine branch_two (i := 6) (j := 10) rfl rfl (by kernel_rfl) (by rfl) (by rfl) (fun K hK => ?_) (fun K hK => ?_)
    · go_simp
      refine Calls.mono (HRU.out _ (K2.out.drew)) ?_
      rintro e w3 ⟨q, rfl, hqt, hqo, hk3, hqf⟩
      have K3 := Lib.hid (((Keeps.refl [] w2).drew).trans hk3)
      have QT := Lib.hid hqt
      have QO := Lib.hid hqo
      have QF := Lib.hid hqf
      obtain ⟨q0, hq0⟩ : ∃ q0, q0 = q := ⟨_, rfl⟩
      rw [← hq0] at QT QO QF
      have Q0 := Lib.hid hq0
      obtain ⟨op9, sa9, sc9, set9, ka9, kc9, kids9, mn9, mx9, mode9, n9, neg9⟩ := q
      simp only [MRe.val]
      have hz7 := heap_alloc_new w3 (.cells #[.int .i64 0, .slice none 0 0, .slice none 0 0, .int .i64 0, .int .i64 0, .int .i64 0, .int .i64 0, .bool false] 64)
      have KA := Lib.hid (K3.out.trans (Keeps.a1 w3 (.cells #[.int .i64 0, .slice none 0 0, .slice none 0 0, .int .i64 0, .int .i64 0, .int .i64 0, .int .i64 0, .bool false] 64)))
      obtain ⟨z0, z1, z2, z3, z4, z5, z6, z7⟩ := row_cells hz7
      have zf := row_frozen hz7
      have HZ7 := Lib.hid hz7
      clear hk3 hqt hqo hqf hq0 hz7
      refine hK.out _ _ (⟨K3.out.cell ht (by simp), K3.out.cell c0 (by simp), K3.out.cell c1 (by simp), K3.out.cell c2 (by simp), K3.out.cell c3 (by simp), K3.out.cell c4 (by simp), K3.out.cell c5 (by simp), K3.out.cell c6 (by simp), K3.out.cell c7 (by simp)⟩) (fun hHeld => ?_)
      clear hK K
      try simp only [Act.put, List.setIfInBounds_toArray, List.set_cons_zero, List.set_cons_succ]
      refine take_on (i := 7) (v := ?_) rfl (by kernel_rfl) (by kernel_rfl) (by kernel_rfl) (fun _ _ _ h => h) (by rfl) (by assumption) ?_ ?_
      rotate_left
      · ((intro w hSw; (try dsimp only at hSw); go_simp <;> with_reducible rfl); done)
      try simp only [Act.put, List.setIfInBounds_toArray, List.set_cons_zero, List.set_cons_succ]
      refine take_on (i := 8) (v := ?_) rfl (by kernel_rfl) (by kernel_rfl) (by kernel_rfl) (fun _ _ _ h => h) (by rfl) (by assumption) ?_ ?_
      rotate_left
      · ((intro w hSw; (try dsimp only at hSw); go_simp <;> with_reducible rfl); done)
      try simp only [Act.put, List.setIfInBounds_toArray, List.set_cons_zero, List.set_cons_succ]
      refine take_on (i := 9) (v := ?_) rfl (by kernel_rfl) (by kernel_rfl) (by kernel_rfl) (fun _ _ _ h => h) (by rfl) (by assumption) ?_ ?_
      rotate_left
      · ((intro w hSw; (try dsimp only at hSw); go_simp <;> with_reducible rfl); done)
      try simp only [Act.put, List.setIfInBounds_toArray, List.set_cons_zero, List.set_cons_succ]
      refine branch_one (i := 10) rfl (by kernel_rfl) (by rfl) (fun K hK => ?_)
      go_simp
      refine hK.out _ _ (⟨KA.out.cell ht (by simp), KA.out.cell c0 (by simp), KA.out.cell c1 (by simp), KA.out.cell c2 (by simp), KA.out.cell c3 (by simp), KA.out.cell c4 (by simp), KA.out.cell c5 (by simp), KA.out.cell c6 (by simp), KA.out.cell c7 (by simp)⟩) (fun hHeld => ?_)
      clear hK K
      try simp only [Act.put, List.setIfInBounds_toArray, List.set_cons_zero, List.set_cons_succ]
      refine branch_one (i := 11) rfl (by kernel_rfl) (by rfl) (fun K hK => ?_)
      go_simp
      have KV := Lib.hid (K3.out.trans (Keeps.a1 w3 (.cells #[.int .i64 op9, .slice sa9 set9.length sc9, .slice ka9 kids9.length kc9, .int .i64 mn9, .int .i64 mx9, .int .i64 mode9, .int .i64 n9, .bool neg9] 64)))
      have HBV := Lib.hid (KV.out.heap HBL.out (by simp))
      have b0 := cell_of_row HBV.out
      have bf := row_frozen HBV.out
      clear z0 z1 z2 z3 z4 z5 z6 z7 zf
      refine hK.out _ _ (⟨KV.out.cell ht (by simp), KV.out.cell c0 (by simp), KV.out.cell c1 (by simp), KV.out.cell c2 (by simp), KV.out.cell c3 (by simp), KV.out.cell c4 (by simp), KV.out.cell c5 (by simp), KV.out.cell c6 (by simp), KV.out.cell c7 (by simp)⟩) (fun hHeld => ?_)
      clear hK K
      try simp only [Act.put, List.setIfInBounds_toArray, List.set_cons_zero, List.set_cons_succ]
      refine branch_one (i := 12) rfl (by kernel_rfl) (by rfl) (fun K hK => ?_)
      go_simp
      have kS := (Keeps.refl [B + 2] (w3.alloc (.cells #[.int .i64 op9, .slice sa9 set9.length sc9, .slice ka9 kids9.length kc9, .int .i64 mn9, .int .i64 mx9, .int .i64 mode9, .int .i64 n9, .bool neg9] 64))).setCell (p := ⟨B + 1 + 1, 0, none⟩) (.inl (by simp)) (.bool o.isSome)
      have KS := Lib.hid kS
      have KT := Lib.hid ((KV.out.mono (S' := [B + 2]) (by simp)).trans kS)
      clear kS b0 bf
      refine hK.out _ _ (⟨KT.out.cell ht (by have := HGB.out; simp; omega), KT.out.cell c0 (by simp), KT.out.cell c1 (by simp), KT.out.cell c2 (by simp), KT.out.cell c3 (by simp), KT.out.cell c4 (by simp), KT.out.cell c5 (by simp), KT.out.cell c6 (by simp), KT.out.cell c7 (by simp)⟩) (fun hHeld => ?_)
      clear hK K
      try simp only [Act.put, List.setIfInBounds_toArray, List.set_cons_zero, List.set_cons_succ]
      refine wpAnyH_done (by kernel_rfl) ?_ _
      refine NoPanic.normal ?_
      go_wp2
      go_meet
      have hs2 := HS2.out
      have hs3 := K3.out.size
      refine ⟨w3.heap.size, q0, _, rfl, rfl, QT.out, (QO.out.keep (Keeps.a1 w3 _)).keepS KS.out fun x hx => ?_, KT.out, ?_, heap_setCell_same _ (B + 1 + 1) 0 _ _ _ HBV.out, hs3⟩
      · rcases QF.out x hx with h | h
        · have := HLT.out x h; have := HBE.out; simp; omega
        · have : w2.heap.size ≤ x := h; simp; omega
      · rw [Q0.out]
        exact KS.out.heap (heap_alloc_new w3 _) (by simp; omega)
    · go_simp
      have KA := Lib.hid (((Keeps.refl [] w2).drew).alloc (.cells #[.int .i64 0, .slice none 0 0, .slice none 0 0, .int .i64 0, .int .i64 0, .int .i64 0, .int .i64 0, .bool false] 64))
      refine hK.out _ _ (⟨KA.out.cell ht (by simp), KA.out.cell c0 (by simp), KA.out.cell c1 (by simp), KA.out.cell c2 (by simp), KA.out.cell c3 (by simp), KA.out.cell c4 (by simp), KA.out.cell c5 (by simp), KA.out.cell c6 (by simp), KA.out.cell c7 (by simp)⟩) (fun hHeld => ?_)
      clear hK K
      try simp only [Act.put, List.setIfInBounds_toArray, List.set_cons_zero, List.set_cons_succ]
      refine branch_one (i := 6) rfl (by kernel_rfl) (by rfl) (fun K hK => ?_)
      go_simp
      refine Calls.mono (HRU.out _ ((K2.out.drew).alloc _)) ?_
      rintro e w3 ⟨q, rfl, hqt, hqo, hk3, hqf⟩
      have K3 := Lib.hid (KA.out.trans hk3)
      have QT := Lib.hid hqt
      have QO := Lib.hid hqo
      have QF := Lib.hid hqf
      obtain ⟨q0, hq0⟩ : ∃ q0, q0 = q := ⟨_, rfl⟩
      rw [← hq0] at QT QO QF
      have Q0 := Lib.hid hq0
      obtain ⟨op9, sa9, sc9, set9, ka9, kc9, kids9, mn9, mx9, mode9, n9, neg9⟩ := q
      simp only [MRe.val]
      have hz7 := hk3.heap (heap_alloc_new w2.drew (.cells #[.int .i64 0, .slice none 0 0, .slice none 0 0, .int .i64 0, .int .i64 0, .int .i64 0, .int .i64 0, .bool false] 64)) (by simp)
      have hz7 : w3.heap[w2.heap.size]? = some (.cells #[.int .i64 0, .slice none 0 0, .slice none 0 0, .int .i64 0, .int .i64 0, .int .i64 0, .int .i64 0, .bool false] 64 (0, 0)) := hz7
      obtain ⟨z0, z1, z2, z3, z4, z5, z6, z7⟩ := row_cells hz7
      have zf := row_frozen hz7
      have HZ7 := Lib.hid hz7
      clear hk3 hqt hqo hqf hq0 hz7
      refine hK.out _ _ (⟨K3.out.cell ht (by simp), K3.out.cell c0 (by simp), K3.out.cell c1 (by simp), K3.out.cell c2 (by simp), K3.out.cell c3 (by simp), K3.out.cell c4 (by simp), K3.out.cell c5 (by simp), K3.out.cell c6 (by simp), K3.out.cell c7 (by simp)⟩) (fun hHeld => ?_)
      clear hK K
      try simp only [Act.put, List.setIfInBounds_toArray, List.set_cons_zero, List.set_cons_succ]
      refine take_on (i := 7) (v := ?_) rfl (by kernel_rfl) (by kernel_rfl) (by kernel_rfl) (fun _ _ _ h => h) (by rfl) (by assumption) ?_ ?_
      rotate_left
      · ((intro w hSw; (try dsimp only at hSw); go_simp <;> with_reducible rfl); done)
      try simp only [Act.put, List.setIfInBounds_toArray, List.set_cons_zero, List.set_cons_succ]
      refine take_on (i := 8) (v := ?_) rfl (by kernel_rfl) (by kernel_rfl) (by kernel_rfl) (fun _ _ _ h => h) (by rfl) (by assumption) ?_ ?_
      rotate_left
      · ((intro w hSw; (try dsimp only at hSw); go_simp <;> with_reducible rfl); done)
      try simp only [Act.put, List.setIfInBounds_toArray, List.set_cons_zero, List.set_cons_succ]
      refine take_on (i := 9) (v := ?_) rfl (by kernel_rfl) (by kernel_rfl) (by kernel_rfl) (fun _ _ _ h => h) (by rfl) (by assumption) ?_ ?_
      rotate_left
      · ((intro w hSw; (try dsimp only at hSw); go_simp <;> with_reducible rfl); done)
      try simp only [Act.put, List.setIfInBounds_toArray, List.set_cons_zero, List.set_cons_succ]
      refine branch_one (i := 11) rfl (by kernel_rfl) (by rfl) (fun K hK => ?_)
      go_simp
      have k8 := set8_keeps w3 w2.heap.size (.int .i64 op9) (.slice sa9 set9.length sc9) (.slice ka9 kids9.length kc9) (.int .i64 mn9) (.int .i64 mx9) (.int .i64 mode9) (.int .i64 n9) (.bool neg9)
      have hs2 := HS2.out
      have K8 := Lib.hid k8
      have KV := Lib.hid (K3.out.after k8 (by intro x hx; simp at hx; subst hx; exact .inr (Nat.le_refl _)))
      have HBV := Lib.hid (KV.out.heap HBL.out (by simp))
      have b0 := cell_of_row HBV.out
      have bf := row_frozen HBV.out
      clear z0 z1 z2 z3 z4 z5 z6 z7 zf k8
      refine hK.out _ _ (⟨KV.out.cell ht (by simp), KV.out.cell c0 (by simp), KV.out.cell c1 (by simp), KV.out.cell c2 (by simp), KV.out.cell c3 (by simp), KV.out.cell c4 (by simp), KV.out.cell c5 (by simp), KV.out.cell c6 (by simp), KV.out.cell c7 (by simp)⟩) (fun hHeld => ?_)
      clear hK K
      try simp only [Act.put, List.setIfInBounds_toArray, List.set_cons_zero, List.set_cons_succ]
      refine branch_one (i := 12) rfl (by kernel_rfl) (by rfl) (fun K hK => ?_)
      go_simp
      have kS := (Keeps.refl [B + 2] (set8 w3 w2.heap.size (.int .i64 op9) (.slice sa9 set9.length sc9) (.slice ka9 kids9.length kc9) (.int .i64 mn9) (.int .i64 mx9) (.int .i64 mode9) (.int .i64 n9) (.bool neg9))).setCell (p := ⟨B + 1 + 1, 0, none⟩) (.inl (by simp)) (.bool o.isSome)
      have KS := Lib.hid kS
      have KT := Lib.hid ((KV.out.mono (S' := [B + 2]) (by simp)).trans kS)
      clear kS b0 bf
      refine hK.out _ _ (⟨KT.out.cell ht (by have := HGB.out; simp; omega), KT.out.cell c0 (by simp), KT.out.cell c1 (by simp), KT.out.cell c2 (by simp), KT.out.cell c3 (by simp), KT.out.cell c4 (by simp), KT.out.cell c5 (by simp), KT.out.cell c6 (by simp), KT.out.cell c7 (by simp)⟩) (fun hHeld => ?_)
      clear hK K
      try simp only [Act.put, List.setIfInBounds_toArray, List.set_cons_zero, List.set_cons_succ]
      refine wpAnyH_done (by kernel_rfl) ?_ _
      refine NoPanic.normal ?_
      go_wp2
      go_meet
      have hlt3 := QO.out.block_lt
      refine ⟨w2.heap.size, q0, _, rfl, rfl, QT.out, (QO.out.keepS K8.out fun x hx => ?_).keepS KS.out fun x hx => ?_, KT.out, ?_, heap_setCell_same _ (B + 1 + 1) 0 _ _ _ HBV.out, Nat.le_refl _⟩
      · rcases QF.out x hx with h | h
        · have := HLT.out x h; have := HBE.out; simp; omega
        · have h : w2.heap.size + 1 ≤ x := by simpa using h
          simp; omega
      · rcases QF.out x hx with h | h
        · have := HLT.out x h; have := HBE.out; simp; omega
        · have h : w2.heap.size + 1 ≤ x := by simpa using h
          simp; omega
      · rw [Q0.out]
        exact KS.out.heap (set8_heap HZ7.out _ _ _ _ _ _ _ _) (by simp; omega)
  case rest =>
    obtain ⟨g7, rr, V, rfl, rfl, hrt, hro, hkV, hg7, hB2, hle⟩ := hcut
    have HRT := Lib.hid hrt
    have HRO := Lib.hid hro
    have KV := Lib.hid hkV
    have HZV := Lib.hid (hkV.heap HZ.out (by simp))
    have HBV := Lib.hid hB2
    have KW := Lib.hid (K2.out.after hkV (by intro x hx; simp at hx; subst hx; exact .inr (by have := HBE.out; omega)))
    obtain ⟨r0, hr0'⟩ : ∃ r0, r0 = rr := ⟨_, rfl⟩
    rw [← hr0'] at HRT HRO
    have R0 := Lib.hid hr0'
    obtain ⟨op9, sa9, sc9, set9, ka9, kc9, kids9, mn9, mx9, mode9, n9, neg9⟩ := rr
    obtain ⟨d0, d1, d2, d3, d4, d5, d6, d7⟩ := row_cells (v0 := .int .i64 op9) (v1 := .slice sa9 set9.length sc9) (v2 := .slice ka9 kids9.length kc9) (v3 := .int .i64 mn9) (v4 := .int .i64 mx9) (v5 := .int .i64 mode9) (v6 := .int .i64 n9) (v7 := .bool neg9) hg7
    have b0 : V.cell? ⟨B + 1 + 1, 0, none⟩ = some (.bool o.isSome) := cell_of_row hB2
    have bf : ∀ o, V.frozen? ⟨B + 1 + 1, o, none⟩ = false := row_frozen hB2
    clear hrt hro hkV hg7 hB2 hle hr0' c0 c1 c2 c3 c4 c5 c6 c7 ht
    cases o with
    | none =>
      have b0 : V.cell? ⟨B + 1 + 1, 0, none⟩ = some (.bool false) := b0
      obtain ⟨z0, z1, z2, z3, z4, z5, z6, z7, zf⟩ := zero_cells HZV.out
      go_wp2
      refine leaves_cons (f := 36) (args := #[.pointer (some ⟨B + 1, 0, none⟩), .pointer (some ⟨B + 1 + 1, 0, none⟩)]) (by simp) (by simp [go_sem]) ?_
      refine (catch_idle ⟨B + 1, 0, none⟩ ⟨B + 1 + 1, 0, none⟩ _).mono ?_
      rintro e u' w'' ⟨rfl, rfl, rfl⟩
      have hs8 := set8_heap HZV.out (.int .i64 0) (.slice none 0 0) (.slice none 0 0) (.int .i64 0) (.int .i64 0) (.int .i64 0) (.int .i64 0) (.bool false)
      have hk8 := set8_keeps V (B + 1) (.int .i64 0) (.slice none 0 0) (.slice none 0 0) (.int .i64 0) (.int .i64 0) (.int .i64 0) (.int .i64 0) (.bool false)
      have hR := (heap_setCell_other (set8 V (B + 1) (.int .i64 0) (.slice none 0 0) (.slice none 0 0) (.int .i64 0) (.int .i64 0) (.int .i64 0) (.int .i64 0) (.bool false)) ⟨B + 1 + 1, 0, none⟩ (B + 1) (.bool false) (by simp)).trans hs8
      have hVb := heap_setCell_same _ (B + 1 + 1) 0 _ 4 (.bool false) (hk8.heap HBV.out (by simp))
      have hkk := (KW.out.after hk8 (by intro x hx; simp at hx; subst hx; exact .inr (by have := HBE.out; omega))).after ((Keeps.refl [B + 1 + 1] (set8 V (B + 1) (.int .i64 0) (.slice none 0 0) (.slice none 0 0) (.int .i64 0) (.int .i64 0) (.int .i64 0) (.int .i64 0) (.bool false))).setCell (p := ⟨B + 1 + 1, 0, none⟩) (.inl (by simp)) (.bool false)) (by intro x hx; simp at hx; subst hx; exact .inr (by have := HBE.out; omega))
      refine ⟨_, results_row_cell rfl _ _ (B + 1) 64 #[.int .i64 0, .slice none 0 0, .slice none 0 0, .int .i64 0, .int .i64 0, .int .i64 0, .int .i64 0, .bool false] (0, 0) _ rfl hR Tryz.underlying64 rfl sizeRe ⟨B + 1 + 1, 0, none⟩ (.bool false) rfl ?_, ?_⟩
      · have hc : ((set8 V (B + 1) (.int .i64 0) (.slice none 0 0) (.slice none 0 0) (.int .i64 0) (.int .i64 0) (.int .i64 0) (.int .i64 0) (.bool false)).setCell ⟨B + 1 + 1, 0, none⟩ (.bool false)).cell? ⟨B + 1 + 1, 0, none⟩ = some (.bool false) := by simp only [World.cell?, hVb]; rfl
        with_reducible exact run_loadVar_bool hc
      · exact ⟨MRe.nil, rfl, rfl, MRe.OK.nil _, hkk, by intro b hb; simp [MRe.nil, MRe.blocks, MRe.blocksL, blockIf] at hb⟩
    | some t =>
      have b0 : V.cell? ⟨B + 1 + 1, 0, none⟩ = some (.bool true) := b0
      have hcl := rclone_any r0 V HRO.out (by rw [HRT.out]; exact HB.out t rfl)
      rw [R0.out] at hcl
      rw [show (MRe.tree (.node op9 sa9 sc9 set9 ka9 kc9 kids9 mn9 mx9 mode9 n9 neg9)) = r0.tree by rw [R0.out]] at hcl
      rw [show (.node op9 sa9 sc9 set9 ka9 kc9 kids9 mn9 mx9 mode9 n9 neg9 : MRe).val = .agg #[.int .i64 op9, .slice sa9 set9.length sc9, .slice ka9 kids9.length kc9, .int .i64 mn9, .int .i64 mx9, .int .i64 mode9, .int .i64 n9, .bool neg9] from rfl] at hcl
      have HCL := Lib.hid hcl
      clear hcl
      go_wp2_with fail
      refine Calls.mono HCL.out ?_
      rintro e w8 ⟨p, rfl, hpt, hpo, hk8', hpf⟩
      have KW := Lib.hid (KW.out.trans hk8')
      have HZ8 := Lib.hid (hk8'.heap HZV.out (by simp))
      have HB8 := Lib.hid (hk8'.heap HBV.out (by simp))
      obtain ⟨z0, z1, z2, z3, z4, z5, z6, z7, zf⟩ := zero_cells HZ8.out
      have b1 : w8.cell? ⟨B + 1 + 1, 0, none⟩ = some (.bool true) := cell_of_row HB8.out
      have bg : ∀ o, w8.frozen? ⟨B + 1 + 1, o, none⟩ = false := row_frozen HB8.out
      obtain ⟨p0, hp0⟩ : ∃ p0, p0 = p := ⟨_, rfl⟩
      rw [← hp0] at hpt hpo hpf
      have P0 := Lib.hid hp0
      have PT := Lib.hid hpt
      have PO := Lib.hid hpo
      have PF := Lib.hid hpf
      clear hpt hpo hpf hp0 hk8' b0 bf d0 d1 d2 d3 d4 d5 d6 d7
      obtain ⟨op5, sa5, sc5, set5, ka5, kc5, kids5, mn5, mx5, mode5, n5, neg5⟩ := p
      simp only [MRe.val]
      go_wp2
      refine leaves_cons (f := 36) (args := #[.pointer (some ⟨B + 1, 0, none⟩), .pointer (some ⟨B + 1 + 1, 0, none⟩)]) (by simp) (by simp [go_sem]) ?_
      refine (catch_idle ⟨B + 1, 0, none⟩ ⟨B + 1 + 1, 0, none⟩ _).mono ?_
      rintro e u' w'' ⟨rfl, rfl, rfl⟩
      have hs8 := set8_heap HZ8.out (.int .i64 op5) (.slice sa5 set5.length sc5) (.slice ka5 kids5.length kc5) (.int .i64 mn5) (.int .i64 mx5) (.int .i64 mode5) (.int .i64 n5) (.bool neg5)
      have hk8 := set8_keeps w8 (B + 1) (.int .i64 op5) (.slice sa5 set5.length sc5) (.slice ka5 kids5.length kc5) (.int .i64 mn5) (.int .i64 mx5) (.int .i64 mode5) (.int .i64 n5) (.bool neg5)
      have hR := (heap_setCell_other (set8 w8 (B + 1) (.int .i64 op5) (.slice sa5 set5.length sc5) (.slice ka5 kids5.length kc5) (.int .i64 mn5) (.int .i64 mx5) (.int .i64 mode5) (.int .i64 n5) (.bool neg5)) ⟨B + 1 + 1, 0, none⟩ (B + 1) (.bool true) (by simp)).trans hs8
      have hVb := heap_setCell_same _ (B + 1 + 1) 0 _ 4 (.bool true) (hk8.heap HB8.out (by simp))
      have hkk := (KW.out.after hk8 (by intro x hx; simp at hx; subst hx; exact .inr (by have := HBE.out; omega))).after ((Keeps.refl [B + 1 + 1] (set8 w8 (B + 1) (.int .i64 op5) (.slice sa5 set5.length sc5) (.slice ka5 kids5.length kc5) (.int .i64 mn5) (.int .i64 mx5) (.int .i64 mode5) (.int .i64 n5) (.bool neg5))).setCell (p := ⟨B + 1 + 1, 0, none⟩) (.inl (by simp)) (.bool true)) (by intro x hx; simp at hx; subst hx; exact .inr (by have := HBE.out; omega))
      refine ⟨_, results_row_cell rfl _ _ (B + 1) 64 #[.int .i64 op5, .slice sa5 set5.length sc5, .slice ka5 kids5.length kc5, .int .i64 mn5, .int .i64 mx5, .int .i64 mode5, .int .i64 n5, .bool neg5] (0, 0) _ rfl hR Tryz.underlying64 rfl sizeRe ⟨B + 1 + 1, 0, none⟩ (.bool true) rfl ?_, ?_⟩
      · have hc : ((set8 w8 (B + 1) (.int .i64 op5) (.slice sa5 set5.length sc5) (.slice ka5 kids5.length kc5) (.int .i64 mn5) (.int .i64 mx5) (.int .i64 mode5) (.int .i64 n5) (.bool neg5)).setCell ⟨B + 1 + 1, 0, none⟩ (.bool true)).cell? ⟨B + 1 + 1, 0, none⟩ = some (.bool true) := by simp only [World.cell?, hVb]; rfl
        with_reducible exact run_loadVar_bool hc
      · have hs2 := HS2.out
        have hsV := KV.out.size
        have hbe := HBE.out
        have hfr : ∀ x ∈ p0.blocks, w2.heap.size ≤ x := fun x hx => Nat.le_trans hsV (PF.out x hx)
        refine ⟨p0, by rw [P0.out]; rfl, by rw [PT.out, HRT.out], (PO.out.keepS hk8 fun x hx => ?_).keepS ((Keeps.refl [B + 1 + 1] (set8 w8 (B + 1) (.int .i64 op5) (.slice sa5 set5.length sc5) (.slice ka5 kids5.length kc5) (.int .i64 mn5) (.int .i64 mx5) (.int .i64 mode5) (.int .i64 n5) (.bool neg5))).setCell (p := ⟨B + 1 + 1, 0, none⟩) (.inl (by simp)) (.bool true)) fun x hx => ?_, hkk, fun x hx => ?_⟩
        · have := hfr x hx; simp; omega
        · have := hfr x hx; simp; omega
        · have := hfr x hx; omega

end Go.Proofs.YtgdmkddegcecaaaGreat
