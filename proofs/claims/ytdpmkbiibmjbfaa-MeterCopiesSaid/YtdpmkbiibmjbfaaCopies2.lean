/- The walk of MeterCopies: it returns true and leaves old memory as it was. Conditions: the slices lie in memory. -/
import Derived.Test.YtdpmkbiibmjbfaaCopies
namespace Go.Proofs.Ytdpmkbiibmjbfaa
open Go.RowKit

theorem getD_mem_drop (zs : List Int) (m : Nat) (h : m < zs.length) : zs.getD m 0 ∈ zs.drop m := by
  rw [List.drop_eq_getElem_cons h, List.getD_eq_getElem?_getD, List.getElem?_eq_getElem h]; exact List.mem_cons_self
theorem mem_drop_succ (zs : List Int) (m : Nat) (h : m < zs.length) (x : Int) (hx : x ∈ zs.drop (m + 1)) : x ∈ zs.drop m := by
  rw [List.drop_eq_getElem_cons h]; exact List.mem_cons_of_mem _ hx

set_option maxRecDepth 100000 in
set_option maxHeartbeats 16000000 in
theorem copies_walk (al ak an : Option Addr) (cl ck cn : Nat) (ls ks ns : List Int) (w : World) (hl : IntsIn w al ls) (hlb : ∀ x ∈ ls, I64 x) (hll : ls.length ≤ 9223372036854775807)
    (hk : IntsIn w ak ks) (hkb : ∀ x ∈ ks, I64 x) (hkl : ks.length ≤ 9223372036854775807) (hn : IntsIn w an ns) (hnb : ∀ x ∈ ns, I64 x) (hnl : ns.length ≤ 9223372036854775807) :
    Calls Try.prog 9 #[.slice al ls.length cl, .slice ak ks.length ck, .slice an ns.length cn] w fun e w' => e = .returned (.bool true) ∧ Keeps [] w w' := by
  have HLI := Lib.hid hl
  have HLB := Lib.hid hlb
  have HKI := Lib.hid hk
  have HKB := Lib.hid hkb
  have HNI := Lib.hid hn
  have HNB := Lib.hid hnb
  clear hl hlb hk hkb hn hnb
  go_enter Try.func9, Try.ntmps9
  go_wp2_with fail
  refine Calls.mono (new_ok 4 9 6 w (by decide)) ?_
  rintro e w1 ⟨rfl, hM1, hk1, hs1⟩
  have HM1 := Lib.hid hM1
  have HK1 := Lib.hid hk1
  clear hM1 hk1
  go_wp2_with fail
  refine Calls.mono (rnew_ok 4 9 6 _ (by unfold rnewBad; omega)) ?_
  rintro e w2 ⟨rfl, hR2, hk2, hs2⟩
  have HP := Lib.hid (pair_new HM1.out (by omega) hs1 hR2 hk2)
  have HK := Lib.hid (HK1.out.trans hk2)
  clear hR2 hk2
  have hz : w.heap.size + 1 < w1.heap.size := by omega
  obtain ⟨mb, hmb⟩ : ∃ mb, mb = w.heap.size + 1 := ⟨_, rfl⟩
  obtain ⟨rb, hrb⟩ : ∃ rb, rb = w1.heap.size := ⟨_, rfl⟩
  obtain ⟨mu, hmu⟩ : ∃ mu, mu = w.heap.size := ⟨_, rfl⟩
  rw [← hmb, ← hrb] at HP ⊢
  rw [← hmu] at HP
  have HB := Lib.hid (show w.heap.size ≤ mb ∧ w.heap.size ≤ mu ∧ w.heap.size ≤ rb by omega)
  clear hmb hrb hmu HM1 HK1 hs1 hs2 hz
  go_wp2_with fail
  have hxi : IntsIn w2 al ls := fun h => by
    obtain ⟨b, off, h1, h2⟩ := HLI.out h
    exact ⟨b, off, h1, fun j hj => HK.out.cell (h2 j hj) (by simp)⟩
  refine Calls.mono (script_any 15 al cl ls _ (by omega) hxi HLB.out hll) ?_
  rintro e w3 ⟨n, a, c, hn, rfl, hsl, hk3, ha3⟩
  have HPA := Lib.hid (HP.out.keep hk3 (by simp) (by simp) (by simp) (by simp))
  have HSL := Lib.hid hsl
  have HKA := Lib.hid (HK.out.trans hk3)
  have HOL := Lib.hid (opsTo_length ls n)
  have hgo1 : ∀ g, a = some g → w.heap.size ≤ g ∧ g ≠ mb ∧ g ≠ mu ∧ g ≠ rb := fun g hg => by
    have h1 := ha3 g hg
    obtain ⟨h2, h3, h4, _⟩ := HP.out.lts
    have h5 := HK.out.size
    omega
  have HGO := Lib.hid hgo1
  clear hsl hk3 ha3 hgo1 hxi HP HK
  simp only [sv]
  go_wp2
  obtain ⟨wo, hwo⟩ : ∃ wo : World, wo = w3 := ⟨_, rfl⟩
  go_loopw [11] (fun i wr => ∃ (k : Nat) (tk : Int) (us : List Int) (a' : Option Nat) (c' : Nat) (L : List (Int × Int × Int)), k ≤ n ∧ i = .int .i64 k ∧ Pair wr mb mu rb 9 6 tk us a' c' L ∧ us.length = 4 ∧ L.length ≤ k ∧ SliceAt wr 41 4 a n c (flat4 (opsTo ls n)) ∧ Keeps [] w wr ∧ (∀ g, a' = some g → w.heap.size ≤ g ∧ a ≠ some g)) (fun i _ => n - (intOf i).toNat)
  case atStart => exact ⟨0, 0, _, none, 0, [], Nat.zero_le _, rfl, HPA.out, rfl, by simp, HSL.out, HKA.out, by simp⟩
  case round =>
    obtain ⟨k, tk, us, a', c', L, hk, rfl, hP, hul, hLl, hsl, hkp, ha⟩ := hrel
    have HP := Lib.hid hP
    have HUL := Lib.hid hul
    have HSL := Lib.hid hsl
    have HK := Lib.hid hkp
    have HA := Lib.hid ha
    clear hP hul hsl hkp ha hwo
    by_cases hlt : k < n
    · cases a with
      | none => exfalso; obtain ⟨_, h0, _⟩ := HSL.out; omega
      | some go =>
      simp only [Option.map_some]
      obtain ⟨d0, d1, d2, d3⟩ := ops_cells HSL.out k (by rw [HOL.out]; exact hlt)
      generalize ((opsTo ls n)[k]'(by rw [HOL.out]; exact hlt)).1 = kd at *
      generalize ((opsTo ls n)[k]'(by rw [HOL.out]; exact hlt)).2.1 = rl at *
      generalize ((opsTo ls n)[k]'(by rw [HOL.out]; exact hlt)).2.2.1 = nn at *
      generalize ((opsTo ls n)[k]'(by rw [HOL.out]; exact hlt)).2.2.2 = wt at *
      go_wp2_with fail
      refine Calls.mono (step_any mb mu rb 9 6 tk us a' c' L kd rl nn wt _ HP.out (by omega)) ?_
      rintro e w4 ⟨rfl, tk2, us2, a2, c2, L2, hP2, hu2, hL2, hk2, ha2⟩
      have hgl := HSL.out.lt
      have HP2 := Lib.hid hP2
      have HSL2 := Lib.hid (HSL.out.keep hk2 (by
        intro g hg
        simp at hg
        subst hg
        have := HGO.out go rfl
        simp
        exact ⟨this.2.1, this.2.2.1, this.2.2.2, fun h => (HA.out _ h).2 rfl⟩))
      have HK2 := Lib.hid (HK.out.after hk2 (by
        intro x hx
        simp at hx
        right
        rcases hx with rfl | rfl | rfl | hx
        · exact HB.out.1
        · exact HB.out.2.1
        · exact HB.out.2.2
        · exact (HA.out x hx).1))
      have HU2 := Lib.hid (hu2.trans HUL.out)
      have HA2 := Lib.hid (show ∀ g, a2 = some g → w.heap.size ≤ g ∧ some go ≠ some g from by
        intro g hg
        rcases ha2 with rfl | ⟨g', rfl, hg'⟩
        · exact HA.out g hg
        · simp at hg; have := HK.out.size; refine ⟨by omega, ?_⟩; simp; omega)
      clear hP2 hu2 hk2 ha2 d0 d1 d2 d3
      go_wp2
      go_roundw
      case rel => exact ⟨k + 1, tk2, us2, a2, c2, L2, by omega, by go_num, HP2.out, HU2.out, by omega, HSL2.out, HK2.out, HA2.out⟩
      case measure => simp [intOf]; omega
    · obtain rfl : k = n := by omega
      go_wp2_with fail
      refine Calls.mono (copy_any mb mu 9 6 tk us _ HP.out.m) ?_
      rintro e w4 ⟨rfl, hM4, hk4, hs4⟩
      have HM4 := Lib.hid hM4
      have HP4 := Lib.hid (HP.out.keep hk4 (by simp) (by simp) (by simp) (by simp))
      have HK4 := Lib.hid (HK.out.trans hk4)
      clear hM4 hk4
      go_wp2_with fail
      refine Calls.mono (rcopy_any rb us.length 9 6 tk a' c' L _ HP4.out.r) ?_
      rintro e w5 ⟨rfl, a5, c5, hR5, hk5, ha5⟩
      have hM5 := HM4.out.keep hk5 (by simp) (by simp)
      have HP5 := Lib.hid (HP4.out.keep hk5 (by simp) (by simp) (by simp) (by simp))
      have HQ5 := Lib.hid (show Pair w5 wr.heap.size (wr.heap.size + 1) w4.heap.size 9 6 tk us a5 c5 L from
        ⟨hM5, hR5, by omega, by omega, by intro h; have := ha5 _ h; omega, by intro h; have := ha5 _ h; omega, HP.out.agree, HP.out.old⟩)
      have hwz := HK.out.size
      have HT5 := Lib.hid (show Twins w w5 mb mu rb wr.heap.size (wr.heap.size + 1) w4.heap.size a' a5 from by
        obtain ⟨m1, m2, m3, m4⟩ := HP.out.lts
        refine ⟨by omega, ?_, ?_, ?_, ?_, fun g hg => (HA.out g hg).1, fun g hg => by have := ha5 g hg; omega, HK4.out.trans hk5⟩
        · refine ⟨fun h => ?_, fun h => ?_, fun h => ?_⟩ <;> (have := m4 _ h; omega)
        · refine ⟨fun h => ?_, fun h => ?_, fun h => ?_⟩ <;> (have := ha5 _ h; omega)
        · intro g hg h; have := m4 g hg; have := ha5 g h; omega
        · have := HB.out; omega)
      clear hM5 hR5 hk5 ha5 HM4 HP4 HK4 HSL HA hs4
      obtain ⟨cb, hcb⟩ : ∃ cb, cb = wr.heap.size := ⟨_, rfl⟩
      obtain ⟨cu, hcu⟩ : ∃ cu, cu = wr.heap.size + 1 := ⟨_, rfl⟩
      obtain ⟨db, hdb⟩ : ∃ db, db = w4.heap.size := ⟨_, rfl⟩
      rw [← hcu, ← hcb, ← hdb] at HQ5 HT5
      rw [← hcb, ← hdb]
      clear hcb hcu hdb HP HK hwz
      go_wp2_with fail
      refine Calls.mono (used_any mb mu 9 6 tk us _ HP5.out.m) ?_
      rintro e w6 ⟨rfl, hI6, hk6, hs6⟩
      rw [HUL.out]
      have HP6 := Lib.hid (HP5.out.keep hk6 (by simp) (by simp) (by simp) (by simp))
      have HQ6 := Lib.hid (HQ5.out.keep hk6 (by simp) (by simp) (by simp) (by simp))
      have HK6 := Lib.hid (HT5.out.kp.trans hk6)
      have HI6 := Lib.hid hI6
      have HO6 := Lib.hid (show ∀ z, (z = mb ∨ z = mu ∨ z = rb ∨ z = cb ∨ z = cu ∨ z = db ∨ a' = some z ∨ a5 = some z) → z ≠ w5.heap.size from by
        obtain ⟨m1, m2, m3, m4⟩ := HP5.out.lts
        obtain ⟨q1, q2, q3, q4⟩ := HQ5.out.lts
        intro z hz
        rcases hz with h | h | h | h | h | h | h | h
        · omega
        · omega
        · omega
        · omega
        · omega
        · omega
        · have := m4 z h; omega
        · have := q4 z h; omega)
      have hwo5 : w.heap.size ≤ w5.heap.size := HT5.out.kp.size
      have HUB := Lib.hid (show ∀ x ∈ us, 0 ≤ x ∧ x ≤ 9 from HP5.out.m.bd)
      clear hI6 hk6
      go_wp2
      obtain ⟨ow, how⟩ : ∃ ow, ow = w5.heap.size := ⟨_, rfl⟩
      rw [← how] at HI6 HO6 hwo5 ⊢
      clear how
      obtain ⟨wo, hwo⟩ : ∃ wo : World, wo = wr := ⟨_, rfl⟩
      clear hwo
      go_loopw [15] (fun i wi => ∃ (m : Nat) (zs : List Int), m ≤ 4 ∧ i = .int .i64 m ∧ Ints 3 wi ow zs ∧ zs.length = 4 ∧ (∀ x ∈ zs, 0 ≤ x ∧ x ≤ 100) ∧ (∀ x ∈ zs.drop m, x ≤ 9) ∧ Keeps [ow] w6 wi) (fun i _ => 4 - (intOf i).toNat)
      case atStart => exact ⟨0, us, by omega, rfl, HI6.out, HUL.out, fun x hx => by have := HUB.out x hx; omega, fun x hx => (HUB.out x (List.mem_of_mem_drop hx)).2, Keeps.refl _ _⟩
      case round =>
        obtain ⟨m, zs, hm, rfl, hI, hzl, hzb, hzd, hK⟩ := hrel
        by_cases hlt2 : m < 4
        · have z0 := hI.cellG m (by omega)
          have zf := hI.fz m
          have hv := hzb (zs.getD m 0) (by rw [List.getD_eq_getElem?_getD, List.getElem?_eq_getElem (by omega)]; simp)
          have hv2 := hzd (zs.getD m 0) (getD_mem_drop zs m (by omega))
          have hIs := hI.set m (zs.getD m 0 + 5)
          have hnb : ∀ x ∈ zs.set m (zs.getD m 0 + 5), 0 ≤ x ∧ x ≤ 100 := fun x hx => by
            rcases List.mem_or_eq_of_mem_set hx with h | h
            · exact hzb x h
            · subst h; omega
          have hnd : ∀ x ∈ (zs.set m (zs.getD m 0 + 5)).drop (m + 1), x ≤ 9 := fun x hx => by
            rw [List.drop_set] at hx
            rw [if_pos (by omega)] at hx
            exact hzd x (mem_drop_succ zs m (by omega) x hx)
          obtain ⟨v, hvv⟩ : ∃ v, v = zs.getD m 0 := ⟨_, rfl⟩
          rw [← hvv] at z0 hv hv2 hIs hnb hnd
          have HIS := Lib.hid hIs
          have HNB2 := Lib.hid hnb
          have HND := Lib.hid hnd
          have HZL := Lib.hid hzl
          have HKI2 := Lib.hid hK
          clear hI hzl hzb hzd hK hIs hnb hnd hvv
          go_wp2
          go_roundw
          case rel => exact ⟨m + 1, zs.set m (v + 5), by omega, by go_num, HIS.out, by rw [List.length_set]; exact HZL.out, HNB2.out, HND.out, HKI2.out.setCell (by simp) _⟩
          case measure => simp [intOf]; omega
        · obtain rfl : m = 4 := by omega
          have HP7 := Lib.hid (HP6.out.keep hK (by simp; exact HO6.out _ (by simp)) (by simp; exact HO6.out _ (by simp)) (by simp; exact HO6.out _ (by simp)) (by intro g hg; simp; exact HO6.out _ (by simp [hg])))
          have HQ7 := Lib.hid (HQ6.out.keep hK (by simp; exact HO6.out _ (by simp)) (by simp; exact HO6.out _ (by simp)) (by simp; exact HO6.out _ (by simp)) (by intro g hg; simp; exact HO6.out _ (by simp [hg])))
          have HK7 := Lib.hid (HK6.out.after hK (by simp; omega))
          clear hI hzl hzb hzd hK HI6 HP6 HQ6 HK6
          go_wp2_with fail
          have hxi : IntsIn wr ak ks := fun h => by
            obtain ⟨b, off, h1, h2⟩ := HKI.out h
            exact ⟨b, off, h1, fun j hj => HK7.out.cell (h2 j hj) (by simp)⟩
          refine Calls.mono (script_any 10 ak ck ks _ (by omega) hxi HKB.out hkl) ?_
          rintro e w8 ⟨nx, ax, cx, hnx, rfl, hsx, hk8, hax⟩
          have HP8 := Lib.hid (HP7.out.keep hk8 (by simp) (by simp) (by simp) (by simp))
          have HQ8 := Lib.hid (HQ7.out.keep hk8 (by simp) (by simp) (by simp) (by simp))
          have HK8 := Lib.hid (HK7.out.trans hk8)
          have HSX8 := Lib.hid hsx
          have HAX := Lib.hid hax
          have hz78 := hk8.size
          clear hsx hk8 hax hxi
          go_wp2_with fail
          have hxi : IntsIn w8 an ns := fun h => by
            obtain ⟨b, off, h1, h2⟩ := HNI.out h
            exact ⟨b, off, h1, fun j hj => HK8.out.cell (h2 j hj) (by simp)⟩
          refine Calls.mono (script_any 10 an cn ns _ (by omega) hxi HNB.out hnl) ?_
          rintro e w9 ⟨ny, ay, cy, hny, rfl, hsy, hk9, hay⟩
          have HT9 := Lib.hid (show CState w w9 mb mu rb cb cu db ax ay nx ny cx cy (opsTo ks nx) (opsTo ns ny) 0 tk tk us us a' a5 c' c5 L L from by
            obtain ⟨m1, m2, m3, m4⟩ := HP7.out.lts
            obtain ⟨q1, q2, q3, q4⟩ := HQ7.out.lts
            have t := HT5.out
            refine ⟨HP8.out.keep hk9 (by simp) (by simp) (by simp) (by simp), HQ8.out.keep hk9 (by simp) (by simp) (by simp) (by simp), ⟨t.d1, t.d2, t.d3, t.d4, t.nw, t.na, t.na2, HK8.out.trans hk9⟩, by omega, by omega, HUL.out, HUL.out, HSX8.out.keep hk9 (by simp), hsy, fun g hg => ?_, fun g hg => ?_⟩
            · have h1 := HAX.out g hg
              exact ⟨by omega, by omega, by omega, by omega, by omega, by omega, fun h => by have := m4 g h; omega, fun h => by have := q4 g h; omega⟩
            · have h1 := hay g hg
              exact ⟨by omega, by omega, by omega, by omega, by omega, by omega, fun h => by have := m4 g h; omega, fun h => by have := q4 g h; omega⟩)
          clear hsy hk9 hay hxi HP7 HQ7 HK7 HP8 HQ8 HK8 HSX8 HAX hz78 HP5 HQ5 HT5 HO6 HUB
          simp only [sv]
          go_wp2
          have HXL := Lib.hid (opsTo_length ks nx)
          have HYL := Lib.hid (opsTo_length ns ny)
          generalize opsTo ks nx = xo at *
          generalize opsTo ns ny = yo at *
          obtain ⟨wo, hwo⟩ : ∃ wo : World, wo = wr := ⟨_, rfl⟩
          clear hwo HOL HPA HKA HGO
          go_loopw [18] (fun i wj => ∃ (k : Nat) (t1 t2 : Int) (u1 u2 : List Int) (b1 b2 : Option Nat) (e1 e2 : Nat) (L1 L2 : List (Int × Int × Int)), k ≤ 10 ∧ i = .int .i64 k ∧ CState w wj mb mu rb cb cu db ax ay nx ny cx cy xo yo k t1 t2 u1 u2 b1 b2 e1 e2 L1 L2) (fun i _ => 10 - (intOf i).toNat)
          case atStart => exact ⟨0, tk, tk, us, us, a', a5, c', c5, L, L, by omega, rfl, HT9.out⟩
          case round =>
            obtain ⟨k, t1, t2, u1, u2, b1, b2, e1, e2, L1, L2, hk, rfl, hC⟩ := hrel
            have HC := Lib.hid hC
            clear hC HT9
            by_cases hx : k < nx
            · by_cases hy : k < ny
              · cases ay with
                | none => exfalso; obtain ⟨_, h0, _⟩ := HC.out.sy; omega
                | some gy =>
                simp only [Option.map_some]
                cases ax with
                | none => exfalso; obtain ⟨_, h0, _⟩ := HC.out.sx; omega
                | some gx =>
                simp only [Option.map_some]
                obtain ⟨d0, d1, d2, d3⟩ := ops_cells HC.out.sx k (by rw [HXL.out]; exact hx)
                generalize (xo[k]'(by rw [HXL.out]; exact hx)).1 = kd at *
                generalize (xo[k]'(by rw [HXL.out]; exact hx)).2.1 = rl at *
                generalize (xo[k]'(by rw [HXL.out]; exact hx)).2.2.1 = nn at *
                generalize (xo[k]'(by rw [HXL.out]; exact hx)).2.2.2 = wt at *
                have hl1 := HC.out.l1
                have hl2 := HC.out.l2
                go_wp2_with fail
                refine Calls.mono (step_any mb mu rb 9 6 t1 u1 b1 e1 L1 kd rl nn wt _ HC.out.p1 (by omega)) ?_
                intro e wk hsp
                obtain ⟨rfl, t1', u1', b1', e1', L1', hL1, hC2⟩ := HC.out.step hsp
                have HC2 := Lib.hid (hC2 (k + 1) (by omega) (by omega))
                clear hsp hC2 d0 d1 d2 d3
                obtain ⟨d0, d1, d2, d3⟩ := ops_cells HC2.out.sy k (by rw [HYL.out]; exact hy)
                generalize (yo[k]'(by rw [HYL.out]; exact hy)).1 = kd2 at *
                generalize (yo[k]'(by rw [HYL.out]; exact hy)).2.1 = rl2 at *
                generalize (yo[k]'(by rw [HYL.out]; exact hy)).2.2.1 = nn2 at *
                generalize (yo[k]'(by rw [HYL.out]; exact hy)).2.2.2 = wt2 at *
                go_wp2_with fail
                refine Calls.mono (step_any cb cu db 9 6 t2 u2 b2 e2 L2 kd2 rl2 nn2 wt2 _ HC2.out.p2 (by omega)) ?_
                intro e wm hsp
                obtain ⟨rfl, t2', u2', b2', e2', L2', hL2, hC3⟩ := HC2.out.swap.step hsp
                have HC3 := Lib.hid (hC3 (k + 1) (by omega) (by omega)).swap
                clear hsp hC3 d0 d1 d2 d3
                go_wp2
                go_roundw
                case rel => exact ⟨k + 1, t1', t2', u1', u2', b1', b2', e1', e2', L1', L2', by omega, by go_num, HC3.out⟩
                case measure => simp [intOf]; omega
              · cases ax with
                | none => exfalso; obtain ⟨_, h0, _⟩ := HC.out.sx; omega
                | some gx =>
                simp only [Option.map_some]
                obtain ⟨d0, d1, d2, d3⟩ := ops_cells HC.out.sx k (by rw [HXL.out]; exact hx)
                generalize (xo[k]'(by rw [HXL.out]; exact hx)).1 = kd at *
                generalize (xo[k]'(by rw [HXL.out]; exact hx)).2.1 = rl at *
                generalize (xo[k]'(by rw [HXL.out]; exact hx)).2.2.1 = nn at *
                generalize (xo[k]'(by rw [HXL.out]; exact hx)).2.2.2 = wt at *
                have hl1 := HC.out.l1
                have hl2 := HC.out.l2
                go_wp2_with fail
                refine Calls.mono (step_any mb mu rb 9 6 t1 u1 b1 e1 L1 kd rl nn wt _ HC.out.p1 (by omega)) ?_
                intro e wk hsp
                obtain ⟨rfl, t1', u1', b1', e1', L1', hL1, hC2⟩ := HC.out.step hsp
                have HC2 := Lib.hid (hC2 (k + 1) (by omega) (by omega))
                clear hsp hC2 d0 d1 d2 d3
                go_wp2
                go_roundw
                case rel => exact ⟨k + 1, t1', t2, u1', u2, b1', b2, e1', e2, L1', L2, by omega, by go_num, HC2.out⟩
                case measure => simp [intOf]; omega
            · by_cases hy : k < ny
              · cases ay with
                | none => exfalso; obtain ⟨_, h0, _⟩ := HC.out.sy; omega
                | some gy =>
                simp only [Option.map_some]
                obtain ⟨d0, d1, d2, d3⟩ := ops_cells HC.out.sy k (by rw [HYL.out]; exact hy)
                generalize (yo[k]'(by rw [HYL.out]; exact hy)).1 = kd2 at *
                generalize (yo[k]'(by rw [HYL.out]; exact hy)).2.1 = rl2 at *
                generalize (yo[k]'(by rw [HYL.out]; exact hy)).2.2.1 = nn2 at *
                generalize (yo[k]'(by rw [HYL.out]; exact hy)).2.2.2 = wt2 at *
                have hl1 := HC.out.l1
                have hl2 := HC.out.l2
                go_wp2_with fail
                refine Calls.mono (step_any cb cu db 9 6 t2 u2 b2 e2 L2 kd2 rl2 nn2 wt2 _ HC.out.p2 (by omega)) ?_
                intro e wm hsp
                obtain ⟨rfl, t2', u2', b2', e2', L2', hL2, hC3⟩ := HC.out.swap.step hsp
                have HC3 := Lib.hid (hC3 (k + 1) (by omega) (by omega)).swap
                clear hsp hC3 d0 d1 d2 d3
                go_wp2
                go_roundw
                case rel => exact ⟨k + 1, t1, t2', u1, u2', b1, b2', e1, e2', L1, L2', by omega, by go_num, HC3.out⟩
                case measure => simp [intOf]; omega
              · go_wp2_with fail
                refine Calls.mono (used_any mb mu 9 6 t1 u1 _ HC.out.p1.m) ?_
                rintro e v2 ⟨rfl, hI2, hk2, hs2⟩
                have HI2 := Lib.hid hI2
                have HC2 := Lib.hid (HC.out.keep hk2)
                clear hI2 hk2
                go_wp2_with fail
                refine Calls.mono (rused_any rb u1.length 9 6 t1 b1 e1 L1 _ HC2.out.p1.r) ?_
                rintro e v3 ⟨a', c', rfl, hS3, hk3, ha3⟩
                rw [pair_used HC2.out.p1] at hS3
                have HS3 := Lib.hid hS3
                have HI3 := Lib.hid (HI2.out.keep hk3 (by simp))
                have HC3 := Lib.hid (HC2.out.keep hk3)
                clear hS3 hk3 ha3
                go_wp2_with fail
                have hul : u1.length ≤ 1000000000000 := by rw [HC3.out.n1]; omega
                refine Calls.mono (same_any _ (a'.map fun g => ⟨g, 0, none⟩) u1.length c' u1 u1 v3 HI3.out.to_in HS3.out.to_in hul hul) ?_
                rintro e v4 ⟨rfl, q, rfl⟩
                simp only [decide_true]
                have HC4 := Lib.hid (HC3.out.keep ((Keeps.refl [] _).drewN q))
                go_wp2_with fail
                refine Calls.mono (used_any cb cu 9 6 t2 u2 _ HC4.out.p2.m) ?_
                rintro e v5 ⟨rfl, hI5, hk5, hs5⟩
                have HI5 := Lib.hid hI5
                have HC5 := Lib.hid (HC4.out.keep hk5)
                clear hI5 hk5 hul
                go_wp2_with fail
                refine Calls.mono (rused_any db u2.length 9 6 t2 b2 e2 L2 _ HC5.out.p2.r) ?_
                rintro e v6 ⟨a6, c6, rfl, hS6, hk6, ha6⟩
                rw [pair_used HC5.out.p2] at hS6
                have HS6 := Lib.hid hS6
                have HI6 := Lib.hid (HI5.out.keep hk6 (by simp))
                have HC6 := Lib.hid (HC5.out.keep hk6)
                clear hS6 hk6 ha6
                go_wp2_with fail
                have hul : u2.length ≤ 1000000000000 := by rw [HC6.out.n2]; omega
                refine Calls.mono (same_any _ (a6.map fun g => ⟨g, 0, none⟩) u2.length c6 u2 u2 v6 HI6.out.to_in HS6.out.to_in hul hul) ?_
                rintro e v7 ⟨rfl, q7, rfl⟩
                simp only [decide_true]
                go_wp2_with fail
                refine Calls.mono (lives_any _) ?_
                rintro e v8 ⟨rfl, hk8⟩
                have HK8 := Lib.hid ((HC6.out.tw.kp.drewN q7).trans hk8)
                clear hk8 hul
                go_wp2
                go_ret
                exact ⟨rfl, HK8.out⟩

end Go.Proofs.Ytdpmkbiibmjbfaa
