/- rules.Decode: it returns what the bytes hold, or an error. Conditions: the bytes lie in memory. -/
import Derived.Test.YtgdmkddegcecaaaGreatRead2
import Derived.Test.YtgdmkddegcecaaaGreatSteps
namespace Go.Proofs.YtgdmkddegcecaaaGreat
open Go.RowKit

/-- Reading m steps: the steps, the new place, the error. -/
def rdSteps (bs : List Int) : Nat → Nat → Int → List (Int × List Int) × Nat × Int
  | 0, at_, wrong => ([], at_, wrong)
  | m + 1, at_, wrong =>
    ((unzig (rdE bs at_ wrong).1, (rdInts bs (at_ + (rdE bs at_ wrong).2.1) (rdE bs at_ wrong).2.2).1) ::
      (rdSteps bs m (rdInts bs (at_ + (rdE bs at_ wrong).2.1) (rdE bs at_ wrong).2.2).2.1 (rdInts bs (at_ + (rdE bs at_ wrong).2.1) (rdE bs at_ wrong).2.2).2.2).1,
     (rdSteps bs m (rdInts bs (at_ + (rdE bs at_ wrong).2.1) (rdE bs at_ wrong).2.2).2.1 (rdInts bs (at_ + (rdE bs at_ wrong).2.1) (rdE bs at_ wrong).2.2).2.2).2)
/-- What the bytes hold: steps, or nothing. -/
def decF (bs : List Int) : Option (List (Int × List Int)) :=
  if unzig (rdE bs 0 0).1 < 0 ∨ (bs.length : Int) < unzig (rdE bs 0 0).1 then none
  else if (rdSteps bs (unzig (rdE bs 0 0).1).toNat (rdE bs 0 0).2.1 (rdE bs 0 0).2.2).2.2 ≠ 0 ∨ (rdSteps bs (unzig (rdE bs 0 0).1).toNat (rdE bs 0 0).2.1 (rdE bs 0 0).2.2).2.1 < bs.length then none
  else some (rdSteps bs (unzig (rdE bs 0 0).1).toNat (rdE bs 0 0).2.1 (rdE bs 0 0).2.2).1
def SRow.pair (r : SRow) : Int × List Int := (r.rule, r.path)

set_option maxRecDepth 100000 in
set_option maxHeartbeats 4000000 in
theorem decode_any (ao : Option Addr) (c0 : Nat) (bs : List Int) (w : World) (hB : BytesIn w ao bs) (hb : ∀ x ∈ bs, 0 ≤ x ∧ x ≤ 255) (hl : bs.length ≤ 1000000) :
    Calls Tryz.prog 7 #[.slice ao bs.length c0] w fun e w' =>
      (decF bs = none ∧ e = .returned (.tuple #[.slice none 0 0, .int .i64 2]) ∧ Keeps [] w w') ∨
      ∃ (a' : Option Nat) (c' : Nat) (rows : List SRow), decF bs = some (rows.map SRow.pair) ∧ e = .returned (.tuple #[sv a' rows.length c', .int .i64 0]) ∧ StepsAt w' 39 a' c' rows ∧ Keeps [] w w' := by
  obtain ⟨i0, hi, hz0, hz1, hz2⟩ := info_parts infoRS
  have Hi := Lib.hid hi
  have Hz0 := Lib.hid hz0
  have Hz1 := Lib.hid hz1
  have Hz2 := Lib.hid hz2
  have HRD := Lib.hid (read_any ao c0 bs w hB hb hl)
  clear hi hz0 hz1 hz2 hB hb
  go_enter Tryz.func7, Tryz.ntmps7
  go_wp2_with fail
  refine Calls.mono HRD.out ?_
  rintro e w1 ⟨b, g, c, rfl, hR1, hk1, hb1, hg1⟩
  have HI := Lib.hid (rdint_any b g c bs 0 0 w1 hR1)
  have HK1 := Lib.hid hk1
  clear hR1 hk1
  go_wp2_with fail
  refine Calls.mono HI.out ?_
  rintro e w2 ⟨rfl, hR2, hk2⟩
  have hK2 : Keeps [] w w2 := HK1.out.after hk2 (by intro x hx; simp at hx; subst hx; exact .inr hb1)
  rw [Nat.zero_add] at hR2
  obtain ⟨n, hn⟩ : ∃ n, n = unzig (rdE bs 0 0).1 := ⟨_, rfl⟩
  obtain ⟨a1, ha1⟩ : ∃ a1, a1 = (rdE bs 0 0).2.1 := ⟨_, rfl⟩
  obtain ⟨er, her⟩ : ∃ er, er = (rdE bs 0 0).2.2 := ⟨_, rfl⟩
  have hdec : decF bs = if n < 0 ∨ (bs.length : Int) < n then none else if (rdSteps bs n.toNat a1 er).2.2 ≠ 0 ∨ (rdSteps bs n.toNat a1 er).2.1 < bs.length then none else some (rdSteps bs n.toNat a1 er).1 := by unfold decF; rw [hn, ha1, her]
  rw [← ha1, ← her] at hR2
  rw [← hn]
  have HDEC := Lib.hid hdec
  have HR2 := Lib.hid hR2
  have HK2 := Lib.hid hK2
  clear hdec hn ha1 her hR2 hk2 hK2 HI HRD HK1
  by_cases hneg : n < 0
  · go_wp2
    go_ret2
    exact .inl ⟨by rw [HDEC.out, if_pos (.inl hneg)], rfl, HK2.out⟩
  · by_cases hbig : (bs.length : Int) < n
    · go_wp2
      go_ret2
      exact .inl ⟨by rw [HDEC.out, if_pos (.inr hbig)], rfl, HK2.out⟩
    · obtain ⟨m, hm⟩ : ∃ m : Nat, n = m := ⟨n.toNat, by omega⟩
      have hm1 : m ≤ 1000000 := by omega
      have hd2 : decF bs = if (rdSteps bs m a1 er).2.2 ≠ 0 ∨ (rdSteps bs m a1 er).2.1 < bs.length then none else some (rdSteps bs m a1 er).1 := by
        rw [HDEC.out, if_neg (by omega), hm, Int.toNat_natCast]
      have HD2 := Lib.hid hd2
      have HM := Lib.hid hm
      clear hd2 HDEC hm
      go_wp2
      go_loopw [6, 20] (fun v i wr => ∃ (k : Nat) (a' : Option Nat) (c' : Nat) (rows : List SRow) (at2 : Nat) (wr2 : Int), k ≤ m ∧ i = .int .i64 k ∧ v = sv a' k c' ∧ rows.length = k ∧ SliceAt wr 39 2 a' k c' (flatS rows) ∧
        (∀ r ∈ rows, IntsIn wr r.pa r.path ∧ ∀ bb, r.pa = some bb → bb.block ≠ b ∧ a' ≠ some bb.block ∧ bb.block < wr.heap.size) ∧ RAt wr b g c bs at2 wr2 ∧ Keeps [] w wr ∧ (∀ z, a' = some z → w.heap.size ≤ z ∧ z ≠ b ∧ z ≠ g) ∧
        rdSteps bs m a1 er = (rows.map SRow.pair ++ (rdSteps bs (m - k) at2 wr2).1, (rdSteps bs (m - k) at2 wr2).2)) (fun _ i _ => m - (intOf i).toNat)
      case atStart => exact ⟨0, none, 0, [], a1, er, Nat.zero_le _, rfl, rfl, rfl, SliceAt.nil _ _ _, by simp, HR2.out, HK2.out, by simp, rfl⟩
      case round =>
        obtain ⟨k, a', c', rows, at2, wr2, hk, rfl, rfl, hrl, hsl, hrw, hR, hkp, ha, hlink⟩ := hrel
        have HSL := Lib.hid hsl
        have HRW := Lib.hid hrw
        have HR := Lib.hid hR
        have HK := Lib.hid hkp
        have HA := Lib.hid ha
        have HLI := Lib.hid hlink
        have HRL := Lib.hid hrl
        clear hsl hrw hR hkp ha hlink hrl
        by_cases hlt : k < m
        · have hltn : (k : Int) < n := by have := HM.out; omega
          have HI := Lib.hid (rdint_any b g c bs at2 wr2 wr HR.out)
          go_wp2_with fail
          refine Calls.mono HI.out ?_
          rintro e w3 ⟨rfl, hR3, hk3⟩
          have HI3 := Lib.hid (rdints_any b g c bs _ _ w3 hR3)
          have HK3 := Lib.hid hk3
          clear hR3 hk3 HI
          go_wp2_with fail
          refine Calls.mono HI3.out ?_
          rintro e w4 ⟨pa, pc, rfl, hps, hR4, hk4, hpz⟩
          have hkk : Keeps [b] wr w4 := HK3.out.trans hk4
          obtain ⟨x, hx⟩ : ∃ x, x = unzig (rdE bs at2 wr2).1 := ⟨_, rfl⟩
          obtain ⟨q, hq⟩ : ∃ q, q = rdInts bs (at2 + (rdE bs at2 wr2).2.1) (rdE bs at2 wr2).2.2 := ⟨_, rfl⟩
          have hli : rdSteps bs m a1 er = (rows.map SRow.pair ++ (x, q.1) :: (rdSteps bs (m - (k + 1)) q.2.1 q.2.2).1, (rdSteps bs (m - (k + 1)) q.2.1 q.2.2).2) := by
            have h1 := HLI.out
            rw [show m - k = (m - (k + 1)) + 1 by omega, rdSteps, ← hx, ← hq] at h1
            exact h1
          rw [← hq] at hps hR4
          rw [← hx, ← hq]
          have HSL4 := Lib.hid (HSL.out.keep hkk (by intro y hy; have := (HA.out y hy).2.1; simpa using this))
          have hK4 : Keeps [] w w4 := HK.out.after hkk (by intro y hy; simp at hy; subst hy; exact .inr hb1)
          have hs4 := hkk.size
          have hs3 := HK3.out.size
          have hbw := lt_of_block hR4.cell
          have hgw := hR4.gl
          have HRW4 := Lib.hid (show ∀ r ∈ rows, IntsIn w4 r.pa r.path ∧ ∀ bb, r.pa = some bb → bb.block ≠ b ∧ a' ≠ some bb.block ∧ bb.block < wr.heap.size from fun r hr =>
            ⟨(HRW.out r hr).1.keep hkk (by intro bb hbb; have := ((HRW.out r hr).2 bb hbb).1; simpa using this), (HRW.out r hr).2⟩)
          have HPS := Lib.hid hps
          have HR4 := Lib.hid hR4
          have HK4 := Lib.hid hK4
          have HPZ := Lib.hid hpz
          have HLI2 := Lib.hid hli
          have hwr := lt_of_block HR.out.cell
          have HAW := Lib.hid (show ∀ y, a' = some y → y < wr.heap.size from fun y hy => by subst hy; exact HSL.out.lt)
          have HPW := Lib.hid (show ∀ y, pa = some y → y < w4.heap.size from fun y hy => by subst hy; exact HPS.out.lt)
          clear hps hR4 hk4 hpz hli hK4 hkk hx HI3 HSL HRW HR HK HLI HK3
          obtain ⟨l, at3, er3⟩ := q
          simp only at HPS HR4 HLI2 ⊢
          simp only [sv]
          go_wp2_with (at_builtin; refine wpList_append_sl rfl (.tmp 22) (.tmp 28) 29 rfl 39 i0 _ 2 32 Tryz.underlying29 Hi.out Hz0.out Hz1.out Hz2.out rfl (by decide) a' k c' _ rfl (HSL4.out.alloc _) ⟨w4.heap.size, 0, none⟩ 1 1 [.int .i64 x, .slice (pa.map fun g => ⟨g, 0, none⟩) l.length pc] rfl rfl ?hnews ?hone (by decide) (by omega) (by omega) ?hk)
          case hnews => exact news_row' _ _ _ _ rfl
          case hone => intro u hu; simp at hu; rcases hu with rfl | rfl <;> rfl
          case hk =>
            intro z5 c5 w5 hsl5 hk5 hz5
            have kk : Keeps a'.toList w4 w5 := ((Keeps.refl a'.toList w4).alloc _).trans hk5
            have hz : w.heap.size ≤ z5 ∧ z5 ≠ b ∧ z5 ≠ g := by
              rcases hz5 with h | h
              · exact HA.out z5 h
              · have := HK4.out.size
                exact ⟨by omega, by omega, by omega⟩
            have hbn : b ∉ a'.toList := by intro h; have h2 := (HA.out b (by simpa using h)).2.1; exact h2 rfl
            have hgn : g ∉ a'.toList := by intro h; have h2 := (HA.out g (by simpa using h)).2.2; exact h2 rfl
            have hR5 := HR4.out.keep kk hbn hgn
            have hK5 : Keeps [] w w5 := HK4.out.after kk (by intro y hy; simp at hy; exact .inr (HA.out y hy).1)
            have hs5 := kk.size
            have hz6 : z5 < wr.heap.size ∧ a' = some z5 ∨ w4.heap.size ≤ z5 := by
              rcases hz5 with h | h
              · exact .inl ⟨HAW.out z5 h, h⟩
              · right; omega
            have hrows : ∀ r ∈ rows ++ [⟨x, pa.map fun g => ⟨g, 0, none⟩, l, pc⟩], IntsIn w5 r.pa r.path ∧ ∀ bb, r.pa = some bb → bb.block ≠ b ∧ some z5 ≠ some bb.block ∧ bb.block < w5.heap.size := by
              intro r hr
              rcases List.mem_append.1 hr with hr | hr
              · obtain ⟨h1, h2⟩ := HRW4.out r hr
                refine ⟨h1.keep kk (fun bb hbb h => (h2 bb hbb).2.1 (by simpa using h)), fun bb hbb => ?_⟩
                obtain ⟨h3, h4, h5⟩ := h2 bb hbb
                refine ⟨h3, ?_, by omega⟩
                intro h
                simp at h
                rcases hz6 with h6 | h6
                · exact h4 (by rw [h6.2, h])
                · omega
              · simp at hr
                subst hr
                have h1 := HPS.out.to_in
                have h7 : ∀ bb : Addr, (pa.map fun g => (⟨g, 0, none⟩ : Addr)) = some bb → w3.heap.size ≤ bb.block ∧ bb.block < w4.heap.size := by
                  intro bb hbb
                  cases pa with
                  | none => simp at hbb
                  | some y => simp at hbb; subst hbb; exact ⟨HPZ.out y rfl, HPW.out y rfl⟩
                refine ⟨h1.keep kk (fun bb hbb h => ?_), fun bb hbb => ?_⟩
                · have h8 := h7 bb hbb
                  have h9 := HAW.out bb.block (by simpa using h)
                  omega
                · have h8 := h7 bb hbb
                  refine ⟨by omega, ?_, by omega⟩
                  intro h
                  simp at h
                  rcases hz6 with h6 | h6 <;> omega
            have HSL5 := Lib.hid hsl5
            have HR5 := Lib.hid hR5
            have HK5 := Lib.hid hK5
            have HROWS := Lib.hid hrows
            clear hsl5 hk5 hz5 kk hR5 hK5 hrows hz6
            go_wp2
            go_roundw
            case rel =>
              refine ⟨k + 1, some z5, c5, rows ++ [⟨x, pa.map fun g => ⟨g, 0, none⟩, l, pc⟩], at3, er3, by omega, by go_num, rfl, by rw [List.length_append, HRL.out]; rfl, ?_, HROWS.out, HR5.out, HK5.out, by intro y hy; simp at hy; subst hy; exact hz, ?_⟩
              · rw [flatS_append]; exact HSL5.out
              · rw [HLI2.out, List.map_append, List.append_assoc]; rfl
            case measure => simp [intOf]; omega
        · obtain rfl : k = m := by omega
          have hltn : ¬ (k : Int) < n := by have := HM.out; omega
          have hli : rdSteps bs k a1 er = (rows.map SRow.pair, at2, wr2) := by
            have h1 := HLI.out
            rw [Nat.sub_self, rdSteps, List.append_nil] at h1
            exact h1
          have hdd : decF bs = if wr2 ≠ 0 ∨ at2 < bs.length then none else some (rows.map SRow.pair) := by rw [HD2.out, hli]
          have HDD := Lib.hid hdd
          have HE := Lib.hid (rdend_any b g c bs at2 wr2 wr HR.out)
          clear hli hdd
          go_wp2_with fail
          refine Calls.mono HE.out ?_
          rintro e w3 ⟨rfl, nq, rfl⟩
          by_cases hw : wr2 = 0
          · by_cases hat : at2 < bs.length
            · rw [if_neg (by simp [hw]), if_pos hat]
              go_wp2
              go_ret2
              exact .inl ⟨by rw [HDD.out, if_pos (.inr hat)], rfl, HK.out.drewN _⟩
            · rw [if_neg (by simp [hw]), if_neg hat]
              go_wp2
              go_ret2
              exact .inr ⟨a', c', rows, by rw [HDD.out, if_neg (by omega)], by rw [HRL.out]; rfl, ⟨by rw [HRL.out]; exact HSL.out.drewN _, fun r hr => (HRW.out r hr).1⟩, HK.out.drewN _⟩
          · rw [if_pos hw]
            have hb2 : (wr2 != 0) = true := by simp [hw]
            go_wp2
            go_ret2
            exact .inl ⟨by rw [HDD.out, if_pos (.inl hw)], rfl, HK.out.drewN _⟩

end Go.Proofs.YtgdmkddegcecaaaGreat
