/- wire.Reader.Ints: a list of signed numbers. Conditions: the reader lies in memory as RAt says. -/
import Derived.Test.YtgdmkddegcecaaaGreatRead
import Derived.Deep.DeepCutAuto
namespace Go.Proofs.YtgdmkddegcecaaaGreat
open Go.RowKit

/-- Reading m signed numbers. -/
def rdMany (bs : List Int) : Nat → Nat → List Int × Nat × Int
  | 0, at_ => ([], at_, 0)
  | m + 1, at_ =>
    if (rdE bs at_ 0).2.2 ≠ 0 then ([], at_ + (rdE bs at_ 0).2.1, (rdE bs at_ 0).2.2)
    else if (rdMany bs m (at_ + (rdE bs at_ 0).2.1)).2.2 ≠ 0 then ([], (rdMany bs m (at_ + (rdE bs at_ 0).2.1)).2.1, (rdMany bs m (at_ + (rdE bs at_ 0).2.1)).2.2)
    else (unzig (rdE bs at_ 0).1 :: (rdMany bs m (at_ + (rdE bs at_ 0).2.1)).1, (rdMany bs m (at_ + (rdE bs at_ 0).2.1)).2.1, 0)
/-- Reading a list of signed numbers: the list, the new place, the error. -/
def rdInts (bs : List Int) (at_ : Nat) (wrong : Int) : List Int × Nat × Int :=
  if (rdE bs at_ wrong).2.2 ≠ 0 then ([], at_ + (rdE bs at_ wrong).2.1, (rdE bs at_ wrong).2.2)
  else if bs.length - (at_ + (rdE bs at_ wrong).2.1) < (rdE bs at_ wrong).1 then ([], at_ + (rdE bs at_ wrong).2.1, 3)
  else rdMany bs (rdE bs at_ wrong).1 (at_ + (rdE bs at_ wrong).2.1)

/-- What is joined: what was read and what follows. -/
def joinR (l : List Int) (q : List Int × Nat × Int) : List Int × Nat × Int := if q.2.2 ≠ 0 then ([], q.2.1, q.2.2) else (l ++ q.1, q.2.1, 0)
theorem rdMany_err (bs : List Int) : ∀ (m at_ : Nat), (rdMany bs m at_).2.2 ≠ 0 → (rdMany bs m at_).1 = [] := by
  intro m
  cases m with
  | zero => intro at_ h; exact absurd rfl h
  | succ m =>
    intro at_ h
    rw [rdMany] at h ⊢
    split
    · rfl
    · rename_i h1
      rw [if_neg h1] at h
      split
      · rfl
      · rename_i h2
        rw [if_neg h2] at h
        exact absurd rfl h
theorem joinR_nil (bs : List Int) (m at_ : Nat) : joinR [] (rdMany bs m at_) = rdMany bs m at_ := by
  have h := rdMany_err bs m at_
  unfold joinR
  split
  · rename_i h1; rw [← h h1]
  · rename_i h1
    have h2 : (rdMany bs m at_).2.2 = 0 := Classical.not_not.1 h1
    rw [List.nil_append, ← h2]
theorem joinR_bad (bs : List Int) (l : List Int) (m at_ : Nat) (h : (rdE bs at_ 0).2.2 ≠ 0) : joinR l (rdMany bs (m + 1) at_) = ([], at_ + (rdE bs at_ 0).2.1, (rdE bs at_ 0).2.2) := by
  rw [rdMany, if_pos h]; unfold joinR; rw [if_pos h]
theorem joinR_go (bs : List Int) (l : List Int) (m at_ : Nat) (h : (rdE bs at_ 0).2.2 = 0) : joinR l (rdMany bs (m + 1) at_) = joinR (l ++ [unzig (rdE bs at_ 0).1]) (rdMany bs m (at_ + (rdE bs at_ 0).2.1)) := by
  rw [rdMany, if_neg (by rw [h]; simp)]
  by_cases h2 : (rdMany bs m (at_ + (rdE bs at_ 0).2.1)).2.2 ≠ 0
  · rw [if_pos h2]; unfold joinR; rw [if_pos h2, if_pos h2]
  · rw [if_neg h2]; unfold joinR; rw [if_neg (by simp), if_neg h2]; simp
theorem joinR_end (bs : List Int) (l : List Int) (at_ : Nat) : joinR l (rdMany bs 0 at_) = (l, at_, 0) := by
  rw [rdMany]; unfold joinR; simp

set_option maxRecDepth 100000 in
set_option maxHeartbeats 4000000 in
theorem rdlist_any (b g c : Nat) (bs : List Int) (at_ : Nat) (wrong : Int) (w : World) (hR : RAt w b g c bs at_ wrong) :
    Calls Tryz.prog 32 #[.pointer (some ⟨b, 0, none⟩), .func (.func 11) #[.pointer (some ⟨b, 0, none⟩)] #[]] w fun e w' =>
      ∃ (a' : Option Nat) (c' : Nat), e = .returned (sv a' (rdInts bs at_ wrong).1.length c') ∧ SliceAt w' 3 1 a' (rdInts bs at_ wrong).1.length c' ((rdInts bs at_ wrong).1.map (Value.int .i64)) ∧ RAt w' b g c bs (rdInts bs at_ wrong).2.1 (rdInts bs at_ wrong).2.2 ∧ Keeps [b] w w' ∧ (∀ z, a' = some z → w.heap.size ≤ z) := by
  obtain ⟨i0, hi, hz0, hz1, hz2⟩ := info_parts infoI
  have Hi := Lib.hid hi
  have Hz0 := Lib.hid hz0
  have Hz1 := Lib.hid hz1
  have Hz2 := Lib.hid hz2
  have hu := rduint_any b g c bs at_ wrong w hR
  have hlt := rdE_lt bs at_ wrong hR.by_
  have hl := hR.len
  have hbsz := lt_of_block hR.cell
  obtain ⟨n, hn⟩ : ∃ n, n = (rdE bs at_ wrong).1 := ⟨_, rfl⟩
  obtain ⟨a1, ha1⟩ : ∃ a1, a1 = at_ + (rdE bs at_ wrong).2.1 := ⟨_, rfl⟩
  obtain ⟨er, her⟩ : ∃ er, er = (rdE bs at_ wrong).2.2 := ⟨_, rfl⟩
  have hres : rdInts bs at_ wrong = if er ≠ 0 then ([], a1, er) else if bs.length - a1 < n then ([], a1, 3) else rdMany bs n a1 := by unfold rdInts; rw [hn, ha1, her]
  rw [← hn, ← ha1, ← her] at hu
  rw [← hn] at hlt
  have HU := Lib.hid hu
  have HRES := Lib.hid hres
  clear hu hn ha1 her hR hi hz0 hz1 hz2 hres
  go_enter Tryz.func32, Tryz.ntmps32
  go_wp2_with fail
  refine Calls.mono HU.out ?_
  rintro e w1 ⟨rfl, hR1, hk1⟩
  have d0 := hR1.c0
  have d1 := hR1.c1
  have d2 := hR1.c2
  have f2 := hR1.fz 2
  have hle := hR1.le
  have HR1 := Lib.hid hR1
  have HK1 := Lib.hid hk1
  clear hR1 hk1 HU
  by_cases he : er = 0
  · subst he
    have hb : ((0 : Int) != 0) = false := by simp
    by_cases hsm : bs.length - a1 < n
    · have hsm2 : ((bs.length : Int) - (a1 : Int)) < (n : Int) := by omega
      go_wp2
      go_quiet (fail)
      have HR2 := Lib.hid ((HR1.out.drewN nq).setWrong 3)
      have HK2 := Lib.hid ((HK1.out.drewN nq).setCell (p := ⟨b, 2, none⟩) (.inl (by simp)) (.int .i64 3))
      have e2 : (w1.drewN nq).cell? ⟨b, 2, none⟩ = some (.int .i64 0) := d2
      have g2 : (w1.drewN nq).frozen? ⟨b, 2, none⟩ = false := f2
      generalize w1.drewN nq = W at *
      clear d0 d1 d2 f2
      go_wp2
      go_ret
      have h1 := HRES.out
      rw [if_neg (by simp), if_pos hsm] at h1
      rw [h1]
      exact ⟨none, 0, rfl, SliceAt.nil _ _ _, HR2.out, HK2.out, by simp⟩
    · have hsm2 : ¬ ((bs.length : Int) - (a1 : Int)) < (n : Int) := by omega
      have hn2 : n ≤ 1000000 := by omega
      go_wp2
      go_quiet (fail)
      have HR2 := Lib.hid (HR1.out.drewN nq)
      have HK2 := Lib.hid (HK1.out.drewN nq)
      generalize w1.drewN nq = W at *
      clear d0 d1 d2 f2
      have hmk := run_make (P := Tryz.prog) W 22 3 i0 (.int .i64 0) Tryz.underlying22 Hi.out Hz0.out .i64 .u64 0 n (by omega) (by omega) (by rw [Hz2.out]; omega) (by omega)
      rw [Hz1.out, Nat.mul_one, Int.toNat_natCast, show (Value.int .i64 0).cells = #[Value.int .i64 0] from rfl, madeCells_one, show (0 : Int).toNat = 0 from rfl, List.toArray_replicate] at hmk
      have hsl0 : SliceAt (W.alloc (.cells (Array.replicate n (Value.int .i64 0)) 3)) 3 1 (some W.heap.size) 0 n [] := ⟨rfl, _, heap_alloc_new _ _, Nat.zero_le _, by unfold maxLen; omega, by simp, by simp⟩
      have HS0 := Lib.hid hsl0
      have HR3 := Lib.hid (HR2.out.keep ((Keeps.refl [] W).alloc (.cells (Array.replicate n (Value.int .i64 0)) 3)) (by simp) (by simp))
      have HK3 := Lib.hid (HK2.out.alloc (.cells (Array.replicate n (Value.int .i64 0)) 3))
      have hWz : w.heap.size ≤ W.heap.size := HK2.out.size
      have hbW : b < W.heap.size := lt_of_block HR2.out.cell
      have hgW := HR2.out.gl
      clear hsl0 HR2 HK2
      go_upto_region 8 with fail
      generalize W.alloc (.cells (Array.replicate n (Value.int .i64 0)) 3) = X at *
      obtain ⟨z0, hz0'⟩ : ∃ z0, z0 = W.heap.size := ⟨_, rfl⟩
      rw [← hz0'] at HS0 hWz hbW hgW ⊢
      have hres2 : rdInts bs at_ wrong = rdMany bs n a1 := by
        have h1 := HRES.out
        rw [if_neg (by simp), if_neg hsm] at h1
        exact h1
      have HRES2 := Lib.hid hres2
      clear hmk hz0' hres2 HR1 HK1
      go_wp2
      go_loopw [6, 33] (fun v s wr => ∃ (k z cc : Nat) (l : List Int) (at2 : Nat), k ≤ n ∧ s = .int .u64 k ∧ v = .slice (some ⟨z, 0, none⟩) k cc ∧ l.length = k ∧ SliceAt wr 3 1 (some z) k cc (l.map (Value.int .i64)) ∧ RAt wr b g c bs at2 0 ∧ Keeps [b] w wr ∧ w.heap.size ≤ z ∧ z ≠ b ∧ z ≠ g ∧ rdMany bs n a1 = joinR l (rdMany bs (n - k) at2)) (fun _ s _ => n - (intOf s).toNat)
      case atStart => exact ⟨0, z0, n, [], a1, Nat.zero_le _, rfl, rfl, rfl, HS0.out, HR3.out, HK3.out, by omega, by omega, by omega, (joinR_nil bs n a1).symm⟩
      case round =>
        obtain ⟨k, z, cc, l, at2, hk, rfl, rfl, hll, hsl, hR, hKr, hzw, hzb, hzg, hlink⟩ := hrel
        have HSL := Lib.hid hsl
        have HR := Lib.hid hR
        have HK := Lib.hid hKr
        have HLI := Lib.hid hlink
        have HLL := Lib.hid hll
        clear hsl hR hKr hlink hll HS0 HR3 HK3
        by_cases hlt2 : k < n
        · have hi := rdint_any b g c bs at2 0 wr HR.out
          have HI := Lib.hid hi
          clear hi
          go_wp2_with fail
          refine Calls.mono HI.out ?_
          rintro e w2 ⟨rfl, hR2, hk2⟩
          have HR2 := Lib.hid hR2
          have HK2 := Lib.hid (HK.out.trans hk2)
          have HSL2 := Lib.hid (HSL.out.keep hk2 (by intro y hy; simp at hy; subst hy; simpa using hzb))
          have hwe := Nat.le_trans HK.out.size hk2.size
          have hb2 := lt_of_block hR2.cell
          have hg2 := hR2.gl
          obtain ⟨e2, he2⟩ : ∃ e2, e2 = (rdE bs at2 0).2.2 := ⟨_, rfl⟩
          obtain ⟨x, hx⟩ : ∃ x, x = unzig (rdE bs at2 0).1 := ⟨_, rfl⟩
          rw [← hx]
          have HE2 := Lib.hid he2
          have HXX := Lib.hid hx
          clear hR2 hk2 he2 hx HI
          go_wp2_with (at_builtin; refine wpList_append_sl rfl (.tmp 35) (.tmp 38) 22 rfl 3 i0 _ 1 8 Tryz.underlying22 Hi.out Hz0.out Hz1.out Hz2.out rfl (by decide) (some z) k cc _ rfl (HSL2.out.alloc _) ⟨w2.heap.size, 0, none⟩ 1 1 [.int .i64 x] rfl rfl ?hnews (int_one _) (by decide) (by omega) (by omega) ?hk)
          case hnews => exact news_row' _ _ _ _ rfl
          case hk =>
            intro z3 c3 w3 hsl3 hk3 hz3
            have hz4 : w.heap.size ≤ z3 ∧ z3 ≠ b ∧ z3 ≠ g := by
              rcases hz3 with h | h
              · subst h; exact ⟨hzw, hzb, hzg⟩
              · exact ⟨by omega, by omega, by omega⟩
            have kk : Keeps [z] w2 w3 := ((Keeps.refl [z] w2).alloc _).trans hk3
            have hR3 := HR2.out.keep kk (by simpa using fun h : b = z => hzb h.symm) (by simpa using fun h : g = z => hzg h.symm)
            have hK3 : Keeps [b] w w3 := HK2.out.after kk (by intro y hy; simp at hy; subst hy; exact .inr hzw)
            have d2 : w3.cell? ⟨b, 2, none⟩ = some (.int .i64 e2) := by rw [HE2.out]; exact hR3.c2
            have HSL3 := Lib.hid hsl3
            have HR3 := Lib.hid hR3
            have HK3 := Lib.hid hK3
            clear hsl3 hk3 hz3 kk hR3 hK3 HR2 HK2 HSL2
            by_cases he0 : e2 = 0
            · have hb0 : (e2 != 0) = false := by simp [he0]
              have hli : rdMany bs n a1 = joinR (l ++ [x]) (rdMany bs (n - (k + 1)) (at2 + (rdE bs at2 0).2.1)) := by
                have h1 := HLI.out
                rw [show n - k = (n - (k + 1)) + 1 by omega, joinR_go _ _ _ _ (by rw [← HE2.out]; exact he0)] at h1
                rw [HXX.out]
                exact h1
              have HLI2 := Lib.hid hli
              have HE0 := Lib.hid he0
              clear hli he0
              go_wp2
              go_roundw
              case rel =>
                refine ⟨k + 1, z3, c3, l ++ [x], at2 + (rdE bs at2 0).2.1, by omega, by go_num, rfl, by rw [List.length_append, HLL.out]; rfl, by rw [List.map_append]; exact HSL3.out, ?_, HK3.out, hz4.1, hz4.2.1, hz4.2.2, HLI2.out⟩
                have h1 := HR3.out
                rw [← HE2.out, HE0.out] at h1
                exact h1
              case measure => simp [intOf]; omega
            · have hb0 : (e2 != 0) = true := by simp [he0]
              have hli : rdInts bs at_ wrong = ([], at2 + (rdE bs at2 0).2.1, (rdE bs at2 0).2.2) := by
                rw [HRES2.out]
                have h1 := HLI.out
                rw [show n - k = (n - (k + 1)) + 1 by omega, joinR_bad _ _ _ _ (by rw [← HE2.out]; exact he0)] at h1
                exact h1
              have HLI2 := Lib.hid hli
              clear hli he0
              go_wp2
              go_ret
              rw [HLI2.out]
              exact ⟨none, 0, rfl, SliceAt.nil _ _ _, HR3.out, HK3.out, by simp⟩
        · obtain rfl : k = n := by omega
          have hli : rdInts bs at_ wrong = (l, at2, 0) := by
            rw [HRES2.out]
            have h1 := HLI.out
            rw [Nat.sub_self, joinR_end] at h1
            exact h1
          have HLI2 := Lib.hid hli
          clear hli
          go_wp2
          go_ret
          rw [HLI2.out]
          exact ⟨some z, cc, by rw [HLL.out]; rfl, by rw [HLL.out]; exact HSL.out, HR.out, HK.out, by intro y hy; simp at hy; subst hy; exact hzw⟩
  · have hb : (er != 0) = true := by simp [he]
    go_wp2
    go_ret
    have h1 := HRES.out
    rw [if_pos he] at h1
    rw [h1]
    exact ⟨none, 0, rfl, SliceAt.nil _ _ _, HR1.out, HK1.out, by simp⟩

set_option maxRecDepth 100000 in
set_option maxHeartbeats 1000000 in
theorem rdints_any (b g c : Nat) (bs : List Int) (at_ : Nat) (wrong : Int) (w : World) (hR : RAt w b g c bs at_ wrong) :
    Calls Tryz.prog 20 #[.pointer (some ⟨b, 0, none⟩)] w fun e w' =>
      ∃ (a' : Option Nat) (c' : Nat), e = .returned (sv a' (rdInts bs at_ wrong).1.length c') ∧ SliceAt w' 3 1 a' (rdInts bs at_ wrong).1.length c' ((rdInts bs at_ wrong).1.map (Value.int .i64)) ∧ RAt w' b g c bs (rdInts bs at_ wrong).2.1 (rdInts bs at_ wrong).2.2 ∧ Keeps [b] w w' ∧ (∀ z, a' = some z → w.heap.size ≤ z) := by
  have HL := Lib.hid (rdlist_any b g c bs at_ wrong w hR)
  clear hR
  go_enter Tryz.func20, Tryz.ntmps20
  go_wp2_with fail
  refine Calls.mono HL.out ?_
  rintro e w1 ⟨a', c', rfl, h⟩
  have H := Lib.hid h
  clear h
  go_wp2
  go_ret
  exact ⟨a', c', rfl, H.out⟩

theorem addr_add (b off j : Nat) : (⟨b, off, none⟩ : Addr).add j = ⟨b, off + j, none⟩ := by unfold Addr.add; split <;> simp_all
/-- A slice that reads as bytes, wherever it lies. -/
def BytesIn (w : World) (ao : Option Addr) (xs : List Int) : Prop := 0 < xs.length → ∃ b off, ao = some ⟨b, off, none⟩ ∧ ∀ j, j < xs.length → w.cell? ⟨b, off + j, none⟩ = some (.int .u8 (xs.getD j 0))

set_option maxRecDepth 100000 in
set_option maxHeartbeats 1000000 in
theorem read_any (ao : Option Addr) (c : Nat) (bs : List Int) (w : World) (hB : BytesIn w ao bs) (hb : ∀ x ∈ bs, 0 ≤ x ∧ x ≤ 255) (hl : bs.length ≤ 1000000) :
    Calls Tryz.prog 8 #[.slice ao bs.length c] w fun e w' =>
      ∃ (b g c' : Nat), e = .returned (.pointer (some ⟨b, 0, none⟩)) ∧ RAt w' b g c' bs 0 0 ∧ Keeps [] w w' ∧ w.heap.size ≤ b ∧ w.heap.size ≤ g := by
  obtain ⟨i0, hi, hz0, hz1, hz2⟩ := info_parts infoU8
  have Hi := Lib.hid hi
  have Hz0 := Lib.hid hz0
  have Hz1 := Lib.hid hz1
  have Hz2 := Lib.hid hz2
  have HB := Lib.hid hB
  have HBB := Lib.hid hb
  clear hi hz0 hz1 hz2 hB hb
  have HAL := Lib.hid (fun (W : World) (o : Obj) => show (W.alloc o).heap.size = W.heap.size + 1 by simp)
  by_cases h0 : bs.length = 0
  · obtain rfl := List.eq_nil_of_length_eq_zero h0
    cases ao
    all_goals
      go_enter Tryz.func8, Tryz.ntmps8
      go_wp2
      go_ret
      refine ⟨w.heap.size + 1, w.heap.size, 0, rfl, ⟨heap_alloc2_new w _ _, fun j hj => by simp at hj, by omega, Nat.le_refl _, by simp, by simp, ?_⟩, ((Keeps.refl [] w).alloc _).alloc _, by omega, Nat.le_refl _⟩
      rw [HAL.out, HAL.out]
      omega
  · obtain ⟨b, off, rfl, hc⟩ := HB.out (by omega)
    have HC := Lib.hid hc
    clear hc
    go_enter Tryz.func8, Tryz.ntmps8
    go_wp2_with (at_builtin; refine wpList_append_sl rfl (.tmp 3) (.tmp 4) 23 rfl 5 i0 _ 1 1 Tryz.underlying23 Hi.out Hz0.out Hz1.out Hz2.out rfl (by decide) (some w.heap.size) 0 0 [] rfl ?hown ⟨b, off, none⟩ bs.length c (bs.map (Value.int .u8)) rfl (by simp) ?hnews ?hone (by omega) (by omega) (by omega) ?hk)
    case hown => exact ⟨by simp, #[], heap_alloc_new _ _, Nat.le_refl _, Nat.zero_le _, rfl, rfl⟩
    case hnews =>
      intro j u hj
      have hj2 : j < bs.length := by
        have := (List.getElem?_eq_some_iff.1 hj).1
        simpa using this
      simp [hj2] at hj
      subst hj
      have := ((Keeps.refl [] w).alloc (.cells #[] 5)).cell (HC.out j hj2) (by simp)
      simp [hj2] at this
      rw [addr_add]
      exact this
    case hone => intro u hu; simp at hu; obtain ⟨x, _, rfl⟩ := hu; rfl
    case hk =>
      intro g c' w2 hsl hk2 hg
      have hK2 : Keeps [] w w2 := ((Keeps.refl [] w).alloc _).after hk2 (by intro x hx; simp at hx; exact .inr (by omega))
      have hG2 : w.heap.size ≤ g := by rcases hg with hg | hg <;> omega
      have hsl2 : SliceAt w2 5 1 (some g) bs.length c' (bs.map (Value.int .u8)) := by simpa using hsl
      have HSL := Lib.hid hsl2
      have HK2 := Lib.hid hK2
      clear hsl hk2 hg hK2 hsl2
      go_wp2
      go_ret
      have hgl := HSL.out.lt
      refine ⟨w2.heap.size, g, c', rfl, ⟨heap_alloc_new _ _, fun j hj => ?_, by omega, Nat.zero_le _, HBB.out, hl, by rw [HAL.out]; omega⟩, HK2.out.alloc _, HK2.out.size, hG2⟩
      have h1 := (HSL.out.alloc (.cells #[.slice (some ⟨g, 0, none⟩) bs.length c', .int .i64 0, .int .i64 0] 55)).cell j (by simpa using hj)
      rw [h1]
      simp [hj]

end Go.Proofs.YtgdmkddegcecaaaGreat
