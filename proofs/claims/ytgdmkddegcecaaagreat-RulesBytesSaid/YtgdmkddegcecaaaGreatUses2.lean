/- ast.Uses, rules.plain: the walk. Conditions: the tree lies in memory. -/
import Derived.Test.YtgdmkddegcecaaaGreatUses
namespace Go.Proofs.YtgdmkddegcecaaaGreat
open Go.RowKit

theorem At8.keepS {S : List Nat} {w w' : World} {b o : Nat} {m : MRe} (h : At8 w b o m) (k : Keeps S w w') (hb : b ∉ S) : At8 w' b o m := fun j hj => k.cell (h j hj) hb

/-- The number x lies in the block u of its own. -/
def NumAt (w : World) (u : Nat) (x : Nat) : Prop := w.heap[u]? = some (.cells #[.int .i64 x] 3 (0, 0))
theorem NumAt.cell {w : World} {u x : Nat} (h : NumAt w u x) : w.cell? ⟨u, 0, none⟩ = some (.int .i64 x) := by unfold NumAt at h; simp [World.cell?, h]
theorem NumAt.fz {w : World} {u x : Nat} (h : NumAt w u x) : w.frozen? ⟨u, 0, none⟩ = false := by unfold NumAt at h; simp [World.frozen?, h]
theorem NumAt.keep {S : List Nat} {w w' : World} {u x : Nat} (h : NumAt w u x) (k : Keeps S w w') (hu : u ∉ S) : NumAt w' u x := k.heap h hu
theorem NumAt.set {w : World} {u x : Nat} (h : NumAt w u x) (y : Nat) : NumAt (w.setCell ⟨u, 0, none⟩ (.int .i64 y)) u y := heap_setCell_same _ u 0 _ _ _ h

set_option maxRecDepth 100000 in
set_option maxHeartbeats 8000000 in
theorem uses1_any (m : MRe) : ∀ (b o c u x : Nat) (w : World), At8 w b o m → m.OK w → w.cell? ⟨c, 0, none⟩ = some (.func (Fn.func 97) #[] #[.pointer (some ⟨u, 0, none⟩), .pointer (some ⟨c, 0, none⟩)]) → NumAt w u x → x < 128 → u ≠ b → u ≠ c → u ∉ m.blocks →
    Calls Tryz.prog 97 #[.pointer (some ⟨b, o, none⟩), .pointer (some ⟨u, 0, none⟩), .pointer (some ⟨c, 0, none⟩)] w fun e w' => e = .returned (.tuple #[]) ∧ Keeps [u] w w' ∧ NumAt w' u (x ||| usesT m.tree) := by
  induction m using MRe.induct with
  | h op sa sc set ka kc kids mn mx mode n neg ih =>
    intro b o c u x w h1 k1 hc hu hx128 hub huc hum
    have a2 := h1.node.c2
    have hcap := k1.nodes.cap
    have hle := k1.nodes.le
    unfold maxLen at hcap
    obtain ⟨v, hv⟩ : ∃ v, v = usesOfT (MRe.tree (.node op sa sc set ka kc kids mn mx mode n neg)) := ⟨_, rfl⟩
    have hv128 : v < 128 := by rw [hv]; exact usesOfT_lt _
    have HU := Lib.hid (fun (W : World) (h : Keeps [] w W) => usesOf_any b o (.node op sa sc set ka kc kids mn mx mode n neg) W (h1.keep h) (k1.keep h))
    have hT : usesT (MRe.node op sa sc set ka kc kids mn mx mode n neg).tree = v ||| usesL (MRe.trees kids) := by rw [hv]; rfl
    rw [hT]
    rw [← hv] at HU
    have hor := bits_or hx128 hv128
    have HK1 := Lib.hid k1.kids
    have hblk : u ∉ blockIf kids.length ka ++ MRe.blocksL kids := fun h => hum (by simp only [MRe.blocks, List.mem_append] at h ⊢; exact .inr h)
    have HBL := Lib.hid hblk
    have HI := Lib.hid ih
    have HV := Lib.hid hv
    have hc0 := hu.cell
    have hf0 := hu.fz
    have HNU := Lib.hid hu
    have HUB := Lib.hid hub
    have HUC := Lib.hid huc
    have HX := Lib.hid hx128
    have HV1 := Lib.hid hv128
    clear ih h1 k1 hT hv hu hx128 hv128 hum hblk
    go_enter Tryz.func97, Tryz.ntmps97
    go_upto_region 0 with fail
    go_cut [] (fun wx => ∃ W, W = wx ∧ Keeps [u] w W ∧ NumAt W u (x ||| v))
    case first =>
      refine wp_region_held_drew (S := fun _ => True) (by kernel_rfl) trivial (fun hHeld => ?_)
      refine take_on (i := 1) (v := ?_) rfl (by kernel_rfl) (by kernel_rfl) (by kernel_rfl) (fun _ _ _ h => h) (by rfl) (by assumption) ?_ ?_
      rotate_left
      · ((intro w hSw; (try dsimp only at hSw); go_simp <;> with_reducible rfl); done)
      try simp only [Act.put, List.setIfInBounds_toArray, List.set_cons_zero, List.set_cons_succ]
      refine branch_two (i := 0) (j := 2) rfl rfl (by kernel_rfl) (by rfl) (by rfl) (fun K hK => ?_) (fun K hK => ?_)
      · go_simp
        refine hK.out _ _ (trivial) (fun hHeld => ?_)
        clear hK K
        try simp only [Act.put, List.setIfInBounds_toArray, List.set_cons_zero, List.set_cons_succ]
        refine branch_one (i := 2) rfl (by kernel_rfl) (by rfl) (fun K hK => ?_)
        go_simp
        go_at_call 98
        refine Calls.mono (HU.out _ ((Keeps.refl [] w).drew)) ?_
        rintro e w2 ⟨rfl, hk⟩
        have K2 := Lib.hid (((Keeps.refl [] w).drew).trans hk)
        have N2 := Lib.hid (HNU.out.keep K2.out (by simp))
        have n2 := N2.out.cell
        have f2 := N2.out.fz
        clear hk
        refine hK.out _ _ (trivial) (fun hHeld => ?_)
        clear hK K
        try simp only [Act.put, List.setIfInBounds_toArray, List.set_cons_zero, List.set_cons_succ]
        refine take_on (i := 3) (v := ?_) rfl (by kernel_rfl) (by kernel_rfl) (by kernel_rfl) (fun _ _ _ h => h) (by rfl) (by assumption) ?_ ?_
        rotate_left
        · ((intro w hSw; (try dsimp only at hSw); go_simp <;> with_reducible rfl); done)
        try simp only [Act.put, List.setIfInBounds_toArray, List.set_cons_zero, List.set_cons_succ]
        refine branch_one (i := 4) rfl (by kernel_rfl) (by rfl) (fun K hK => ?_)
        go_simp
        refine hK.out _ _ (trivial) (fun hHeld => ?_)
        clear hK K
        try simp only [Act.put, List.setIfInBounds_toArray, List.set_cons_zero, List.set_cons_succ]
        refine wpAnyH_done (by kernel_rfl) ?_ _
        go_wp2
        go_meet
        exact ⟨_, rfl, (K2.out.mono (by simp)).trans ((Keeps.refl [u] w2).setCell (p := ⟨u, 0, none⟩) (.inl (by simp)) _), N2.out.set _⟩
      · go_simp
        go_at_call 98
        refine Calls.mono (HU.out _ ((Keeps.refl [] w).drew)) ?_
        rintro e w2 ⟨rfl, hk⟩
        have K2 := Lib.hid (((Keeps.refl [] w).drew).trans hk)
        have N2 := Lib.hid (HNU.out.keep K2.out (by simp))
        have n2 := N2.out.cell
        have f2 := N2.out.fz
        clear hk
        refine hK.out _ _ (trivial) (fun hHeld => ?_)
        clear hK K
        try simp only [Act.put, List.setIfInBounds_toArray, List.set_cons_zero, List.set_cons_succ]
        refine branch_one (i := 0) rfl (by kernel_rfl) (by rfl) (fun K hK => ?_)
        go_simp
        refine hK.out _ _ (trivial) (fun hHeld => ?_)
        clear hK K
        try simp only [Act.put, List.setIfInBounds_toArray, List.set_cons_zero, List.set_cons_succ]
        refine take_on (i := 3) (v := ?_) rfl (by kernel_rfl) (by kernel_rfl) (by kernel_rfl) (fun _ _ _ h => h) (by rfl) (by assumption) ?_ ?_
        rotate_left
        · ((intro w hSw; (try dsimp only at hSw); go_simp <;> with_reducible rfl); done)
        try simp only [Act.put, List.setIfInBounds_toArray, List.set_cons_zero, List.set_cons_succ]
        refine branch_one (i := 4) rfl (by kernel_rfl) (by rfl) (fun K hK => ?_)
        go_simp
        refine hK.out _ _ (trivial) (fun hHeld => ?_)
        clear hK K
        try simp only [Act.put, List.setIfInBounds_toArray, List.set_cons_zero, List.set_cons_succ]
        refine wpAnyH_done (by kernel_rfl) ?_ _
        go_wp2
        go_meet
        exact ⟨_, rfl, (K2.out.mono (by simp)).trans ((Keeps.refl [u] w2).setCell (p := ⟨u, 0, none⟩) (.inl (by simp)) _), N2.out.set _⟩
    case rest =>
      obtain ⟨X, rfl, kX, nX⟩ := hcut
      have KX := Lib.hid kX
      have hcX := kX.cell hc (by simp only [List.mem_cons, List.not_mem_nil, or_false]; exact fun h => HUC.out h.symm)
      have a2X := kX.cell a2 (by simp only [List.mem_cons, List.not_mem_nil, or_false]; exact fun h => HUB.out h.symm)
      have NX := Lib.hid nX
      clear kX nX hc0 hf0 hc a2 HNU HU hor
      go_wp2
      go_loopw [14] (fun i wr => ∃ k : Nat, k ≤ kids.length ∧ i = .int .i64 k ∧ ∃ y : Nat, y < 128 ∧ NumAt wr u y ∧ y ||| usesL ((MRe.trees kids).drop k) = x ||| (v ||| usesL (MRe.trees kids)) ∧ Keeps [u] w wr ∧ Keeps [u] X wr) (fun i _ => kids.length - (intOf i).toNat)
      case atStart => exact ⟨0, Nat.zero_le _, rfl, x ||| v, or_lt HX.out HV1.out, NX.out, by rw [List.drop_zero, Nat.or_assoc], KX.out, Keeps.refl _ _⟩
      case round =>
        obtain ⟨k, hk, rfl, y, hy, hn, hl, hkw, hkX⟩ := hrel
        have HLL := Lib.hid hl
        have HKW := Lib.hid hkw
        have HKX := Lib.hid hkX
        have HY := Lib.hid hy
        have HN := Lib.hid hn
        by_cases hlt : k < kids.length
        · have hkin := HK1.out.keepS hkw (by intro q hq; simp only [List.mem_cons, List.not_mem_nil, or_false]; intro h; subst h; exact HBL.out hq)
          obtain ⟨b', off, rfl, hb, hx⟩ := hkin.nodes.kid (by omega)
          have x1 := hkX.cell hcX (by simp only [List.mem_cons, List.not_mem_nil, or_false]; exact fun h => HUC.out h.symm)
          have x2 := hkX.cell a2X (by simp only [List.mem_cons, List.not_mem_nil, or_false]; exact fun h => HUB.out h.symm)
          have hc1 := hkin.all kids[k] (List.getElem_mem hlt)
          have hub' : u ≠ b' := fun h => HBL.out (List.mem_append_left _ (by unfold blockIf; rw [if_neg (by omega)]; simp [h]))
          have hum' : u ∉ kids[k].blocks := fun h => HBL.out (List.mem_append_right _ (MRe.mem_blocksL (List.getElem_mem hlt) h))
          have HCALL := Lib.hid (fun (W : World) (h : Keeps [] wr W) => HI.out kids[k] (List.getElem_mem hlt) b' (off + k * 8) c u y W ((hx k hlt).keep h) (hc1.keep h) (h.cell x1 (by simp)) (HN.out.keep h (by simp)) HY.out hub' HUC.out hum')
          have hd : usesL ((MRe.trees kids).drop k) = usesT kids[k].tree ||| usesL ((MRe.trees kids).drop (k + 1)) := by rw [trees_drop kids k hlt, usesL]
          have HD := Lib.hid (show (y ||| usesT kids[k].tree) ||| usesL ((MRe.trees kids).drop (k + 1)) = x ||| (v ||| usesL (MRe.trees kids)) by rw [← hl, hd, Nat.or_assoc])
          have HUT := Lib.hid (usesT_lt kids[k].tree)
          clear hd hc1 hx hl hkX hkw HI hcX a2X hn hy hkin hub' hum'
          go_wp2
          refine wp_region_held_drew (S := fun w' => w'.cell? ⟨c, 0, none⟩ = some (.func (Fn.func 97) #[] #[.pointer (some ⟨u, 0, none⟩), .pointer (some ⟨c, 0, none⟩)]) ∧ w'.cell? ⟨b, o + 2, none⟩ = some (.slice (some ⟨b', off, none⟩) kids.length kc)) (by kernel_rfl) ⟨x1, x2⟩ (fun hHeld => ?_)
          refine take_on (i := 0) (v := ?_) rfl (by kernel_rfl) (by kernel_rfl) (by kernel_rfl) (fun _ _ _ h => h) (by rfl) (by assumption) ?_ ?_
          rotate_left
          · ((intro w hSw; (try dsimp only at hSw); go_simp <;> with_reducible rfl); done)
          try simp only [Act.put, List.setIfInBounds_toArray, List.set_cons_zero, List.set_cons_succ]
          refine take_on (i := 1) (v := ?_) rfl (by kernel_rfl) (by kernel_rfl) (by kernel_rfl) (fun _ _ _ h => h) (by rfl) (by assumption) ?_ ?_
          rotate_left
          · ((intro w hSw; (try dsimp only at hSw); go_simp <;> with_reducible rfl); done)
          try simp only [Act.put, List.setIfInBounds_toArray, List.set_cons_zero, List.set_cons_succ]
          refine take_on (i := 2) (v := ?_) rfl (by kernel_rfl) (by kernel_rfl) (by kernel_rfl) (fun _ _ _ h => h) (by rfl) (by assumption) ?_ ?_
          rotate_left
          · ((intro w hSw; (try dsimp only at hSw); go_simp <;> with_reducible rfl); done)
          try simp only [Act.put, List.setIfInBounds_toArray, List.set_cons_zero, List.set_cons_succ]
          refine take_on (i := 3) (v := ?_) rfl (by kernel_rfl) (by kernel_rfl) (by kernel_rfl) (fun _ _ _ h => h) (by rfl) (by assumption) ?_ ?_
          rotate_left
          · ((intro w hSw; (try dsimp only at hSw); go_simp <;> with_reducible rfl); done)
          try simp only [Act.put, List.setIfInBounds_toArray, List.set_cons_zero, List.set_cons_succ]
          refine take_on (i := 4) (v := ?_) rfl (by kernel_rfl) (by kernel_rfl) (by kernel_rfl) (fun _ _ _ h => h) (by rfl) (by assumption) ?_ ?_
          rotate_left
          · ((intro w hSw; (try dsimp only at hSw); go_simp <;> with_reducible rfl); done)
          try simp only [Act.put, List.setIfInBounds_toArray, List.set_cons_zero, List.set_cons_succ]
          refine take_on (i := 5) (v := ?_) rfl (by kernel_rfl) (by kernel_rfl) (by kernel_rfl) (fun _ _ _ h => h) (by rfl) (by assumption) ?_ ?_
          rotate_left
          · ((intro w hSw; (try dsimp only at hSw); go_simp <;> with_reducible rfl); done)
          try simp only [Act.put, List.setIfInBounds_toArray, List.set_cons_zero, List.set_cons_succ]
          refine take_on (i := 6) (v := ?_) rfl (by kernel_rfl) (by kernel_rfl) (by kernel_rfl) (fun _ _ _ h => h) (by rfl) (by assumption) ?_ ?_
          rotate_left
          · ((intro w hSw; (try dsimp only at hSw); go_simp <;> with_reducible rfl); done)
          try simp only [Act.put, List.setIfInBounds_toArray, List.set_cons_zero, List.set_cons_succ]
          refine branch_one (i := 7) rfl (by kernel_rfl) (by rfl) (fun K hK => ?_)
          go_simp
          go_at_call 97
          refine Calls.mono (HCALL.out _ ((Keeps.refl [] wr).drew)) ?_
          rintro e w3 ⟨rfl, hk3, hn3⟩
          have K3 := Lib.hid ((((Keeps.refl [] wr).drew).mono (S' := [u]) (by simp)).trans hk3)
          have N3 := Lib.hid hn3
          clear hk3 hn3 HCALL
          refine hK.out _ _ (⟨K3.out.cell x1 (by simp only [List.mem_cons, List.not_mem_nil, or_false]; exact fun h => HUC.out h.symm), K3.out.cell x2 (by simp only [List.mem_cons, List.not_mem_nil, or_false]; exact fun h => HUB.out h.symm)⟩) (fun hHeld => ?_)
          clear hK K
          try simp only [Act.put, List.setIfInBounds_toArray, List.set_cons_zero, List.set_cons_succ]
          refine wpAnyH_done (by kernel_rfl) ?_ _
          go_wp2
          go_roundw
          case rel => exact ⟨k + 1, by omega, by go_num, y ||| usesT kids[k].tree, or_lt HY.out HUT.out, N3.out, HD.out, HKW.out.trans K3.out, HKX.out.trans K3.out⟩
          case measure => simp [intOf]; omega
        · obtain rfl : k = kids.length := by omega
          have h0 : usesL ((MRe.trees kids).drop kids.length) = 0 := by rw [List.drop_of_length_le (by rw [MRe.trees_length]; omega)]; rfl
          have HH := Lib.hid (show x ||| (v ||| usesL (MRe.trees kids)) = y by rw [← hl, h0, Nat.or_zero])
          clear hl hkX hkw hn hy h0
          go_wp2
          go_end0
          exact ⟨rfl, HKW.out, by rw [HH.out]; exact HN.out⟩

end Go.Proofs.YtgdmkddegcecaaaGreat
