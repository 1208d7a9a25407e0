/- slices.symMergeCmpFunc at int with the closure of Shares. Conditions: the row and what the closure has captured lie in memory; the two parts are in order. -/
import Derived.Test.YtdpmkbiibmjbfaaRot
import Derived.Deep.DeepCutAuto
namespace Go.Proofs.Ytdpmkbiibmjbfaa
open Go.RowKit

/-- The first element on its way up: up to k all have moved down by one. -/
structure Ride (key : Int → Int) (xs ys : List Int) (a b k : Nat) : Prop where
  turned : Turned xs ys a b
  stab : Stab key ys
  pas : ∀ t, a ≤ t → t < k → ys.getD t 0 = xs.getD (t + 1) 0
  cur : ys.getD k 0 = xs.getD a 0
  rest : ∀ t, k < t → ys.getD t 0 = xs.getD t 0
theorem Ride.start {key : Int → Int} {xs : List Int} {a b : Nat} (h : Stab key xs) : Ride key xs xs a b a :=
  ⟨Turned.refl _ _ _, h, fun t h1 h2 => by omega, rfl, fun _ _ => rfl⟩
theorem Ride.step {key : Int → Int} {xs ys : List Int} {a b i k : Nat} (h : Ride key xs ys a b k) (ha : a ≤ k) (hk : k + 1 < i) (hi : i ≤ b) (hb : b ≤ xs.length) (hlo : ∀ t, a + 1 ≤ t → t < i → key (xs.getD a 0) < key (xs.getD t 0)) : Ride key xs (swp ys k (k + 1)) a b (k + 1) := by
  have hl := h.turned.len
  have hr := h.rest (k + 1) (by omega)
  have hx := hlo (k + 1) (by omega) hk
  have hg := fun t => swp_get ys k (k + 1) t (by omega) (by omega)
  refine ⟨h.turned.trans (Turned.swp _ _ _ _ _ (by omega) (by omega) (by omega) (by omega) (by omega) (by omega)), h.stab.swp_adj k (by omega) (by rw [h.cur, hr]; omega), fun t h1 h2 => ?_, ?_, fun t h1 => ?_⟩
  · rw [hg, if_neg (by omega)]
    by_cases e : t = k
    · rw [if_pos e, hr, e]
    · rw [if_neg e]; exact h.pas t h1 (by omega)
  · rw [hg, if_pos rfl]; exact h.cur
  · rw [hg, if_neg (by omega), if_neg (by omega)]; exact h.rest t (by omega)
theorem Ride.done {key : Int → Int} {xs ys : List Int} {a b i k : Nat} (h : Ride key xs ys a b k) (ha : a ≤ k) (hk : k + 1 = i) (hib : i ≤ b) (hd : Desc key xs (a + 1) b) (hlo : ∀ t, a + 1 ≤ t → t < i → key (xs.getD a 0) < key (xs.getD t 0))
    (hhi : ∀ t, i ≤ t → t < b → key (xs.getD t 0) ≤ key (xs.getD a 0)) : Desc key ys a b := by
  intro p q h1 h2 h3
  rcases Nat.lt_trichotomy q k with c | c | c
  · rw [h.pas p h1 (by omega), h.pas q (by omega) c]; exact hd _ _ (by omega) (by omega) (by omega)
  · rw [c, h.cur, h.pas p h1 (by omega)]; exact Int.le_of_lt (hlo _ (by omega) (by omega))
  · rw [h.rest q c]
    rcases Nat.lt_trichotomy p k with d | d | d
    · rw [h.pas p h1 d]
      by_cases e : p + 1 = q
      · rw [e]; exact Int.le_refl _
      · exact hd _ _ (by omega) (by omega) h3
    · rw [d, h.cur]; exact hhi q (by omega) h3
    · rw [h.rest p d]; exact hd p q (by omega) h2 h3

/-- The last element on its way down: from k on all have moved up by one. -/
structure RideB (key : Int → Int) (xs ys : List Int) (a m k : Nat) : Prop where
  turned : Turned xs ys a (m + 1)
  stab : Stab key ys
  pas : ∀ t, k < t → t ≤ m → ys.getD t 0 = xs.getD (t - 1) 0
  cur : ys.getD k 0 = xs.getD m 0
  rest : ∀ t, t < k → ys.getD t 0 = xs.getD t 0
theorem RideB.start {key : Int → Int} {xs : List Int} {a m : Nat} (h : Stab key xs) : RideB key xs xs a m m :=
  ⟨Turned.refl _ _ _, h, fun t h1 h2 => by omega, rfl, fun _ _ => rfl⟩
theorem RideB.step {key : Int → Int} {xs ys : List Int} {a m i k : Nat} (h : RideB key xs ys a m (k + 1)) (ha : a ≤ i) (hk : i ≤ k) (hm : k < m) (hb : m + 1 ≤ xs.length) (hhi : ∀ t, i ≤ t → t < m → key (xs.getD t 0) < key (xs.getD m 0)) : RideB key xs (swp ys (k + 1) k) a m k := by
  have hl := h.turned.len
  have hr := h.rest k (by omega)
  have hx := hhi k hk hm
  have hg := fun t => swp_get ys k (k + 1) t (by omega) (by omega)
  rw [swp_comm _ _ _ (by omega) (by omega)]
  refine ⟨h.turned.trans (Turned.swp _ _ _ _ _ (by omega) (by omega) (by omega) (by omega) (by omega) (by omega)), h.stab.swp_adj k (by omega) (by rw [h.cur, hr]; omega), fun t h1 h2 => ?_, ?_, fun t h1 => ?_⟩
  · rw [hg]
    by_cases e : t = k + 1
    · rw [if_pos e, hr, e]; rfl
    · rw [if_neg e, if_neg (by omega)]; exact h.pas t (by omega) h2
  · rw [hg, if_neg (by omega), if_pos rfl]; exact h.cur
  · rw [hg, if_neg (by omega), if_neg (by omega)]; exact h.rest t (by omega)
theorem RideB.done {key : Int → Int} {xs ys : List Int} {a m i : Nat} (h : RideB key xs ys a m i) (hai : a ≤ i) (hi : i ≤ m) (hd : Desc key xs a m) (hlo : ∀ t, a ≤ t → t < i → key (xs.getD m 0) ≤ key (xs.getD t 0))
    (hhi : ∀ t, i ≤ t → t < m → key (xs.getD t 0) < key (xs.getD m 0)) : Desc key ys a (m + 1) := by
  intro p q h1 h2 h3
  rcases Nat.lt_trichotomy p i with c | c | c
  · rw [h.rest p c]
    rcases Nat.lt_trichotomy q i with d | d | d
    · rw [h.rest q d]; exact hd p q h1 h2 (by omega)
    · rw [d, h.cur]; exact hlo p h1 c
    · rw [h.pas q d (by omega)]
      by_cases e : p = q - 1
      · rw [e]; exact Int.le_refl _
      · exact hd _ _ h1 (by omega) (by omega)
  · rw [c, h.cur, h.pas q (by omega) (by omega)]; exact Int.le_of_lt (hhi _ (by omega) (by omega))
  · rw [h.pas p c (by omega), h.pas q (by omega) (by omega)]; exact hd _ _ (by omega) (by omega) (by omega)

theorem mem_getD {xs : List Int} {i : Nat} (h : i < xs.length) : xs.getD i 0 ∈ xs := by
  rw [List.getD_eq_getElem?_getD, List.getElem?_eq_getElem h]; simp

set_option maxRecDepth 100000 in
set_option maxHeartbeats 2000000 in
theorem merge_left (g p q s bw off cap : Nat) (total sum : Int) (ws : List Int) (xs : List Int) (c a b : Nat) (w : World) (hE : CmpEnv w p q s bw off cap total sum ws) (hI : Ints 3 w g xs)
    (hd : g ∉ [p, q, s, bw]) (hr : ∀ x ∈ xs, 0 ≤ x ∧ x < ws.length) (hst : Stab (keyOf total sum ws) xs) (hab : a + 1 < b) (hb : b ≤ xs.length) (hxl : xs.length ≤ 1000) (hds : Desc (keyOf total sum ws) xs (a + 1) b) :
    Calls Try.prog 42 #[.slice (some ⟨g, 0, none⟩) xs.length c, .int .i64 a, .int .i64 (a + 1 : Nat), .int .i64 b, .func (.func 29) #[] #[.pointer (some ⟨p, 0, none⟩), .pointer (some ⟨q, 0, none⟩), .pointer (some ⟨s, 0, none⟩)]] w fun e w' =>
      e = .returned (.tuple #[]) ∧ ∃ ys, Ints 3 w' g ys ∧ Turned xs ys a b ∧ Stab (keyOf total sum ws) ys ∧ Desc (keyOf total sum ws) ys a b ∧ Keeps [g] w w' := by
  have HE := Lib.hid hE
  have HI := Lib.hid hI
  have HD := Lib.hid hd
  have HR := Lib.hid hr
  have HST := Lib.hid hst
  have HDS := Lib.hid hds
  clear hE hI hd hr hst hds
  obtain ⟨m, hm⟩ : ∃ m, m = a + 1 := ⟨_, rfl⟩
  rw [← hm]
  have hma : (m : Int) - (a : Int) = 1 := by omega
  have hma2 : ((m : Int) - (a : Int) == 1) = true := by simp; omega
  have hma3 : a + 1 ≤ m := by omega
  have hma4 : m ≤ a + 1 := by omega
  have HM := Lib.hid hm
  clear hm hma
  go_enter Try.func42, Try.ntmps42
  go_wp2
  go_loopw [10, 11] (fun i j wr => ∃ ni nj : Nat, i = .int .i64 ni ∧ j = .int .i64 nj ∧ m ≤ ni ∧ ni ≤ nj ∧ nj ≤ b ∧ (∀ k, a + 1 ≤ k → k < ni → keyOf total sum ws (xs.getD a 0) < keyOf total sum ws (xs.getD k 0)) ∧
    (∀ k, nj ≤ k → k < b → keyOf total sum ws (xs.getD k 0) ≤ keyOf total sum ws (xs.getD a 0)) ∧ Ints 3 wr g xs ∧ Keeps [g] w wr) (fun i j _ => (intOf j).toNat - (intOf i).toNat)
  case atStart => exact ⟨m, b, rfl, rfl, by omega, by omega, by omega, fun k h1 h2 => by omega, fun k h1 h2 => by omega, HI.out, Keeps.refl _ _⟩
  case round =>
    obtain ⟨ni, nj, rfl, rfl, h1, h2, h3, hlo, hhi, hI, hK⟩ := hrel
    have HLO := Lib.hid hlo
    have HHI := Lib.hid hhi
    have HIr := Lib.hid hI
    have HKr := Lib.hid hK
    have hEr := HE.out.keep hK (by intro h; simp at h; exact HD.out (by simp [h])) (by intro h; simp at h; exact HD.out (by simp [h])) (by intro h; simp at h; exact HD.out (by simp [h])) (by intro h; simp at h; exact HD.out (by simp [h]))
    have HEr := Lib.hid hEr
    clear hlo hhi hI hK hEr
    by_cases hlt : ni < nj
    · go_upto_region 5 with fail
      obtain ⟨h, hh⟩ : ∃ h : Nat, ((ni : Int) + nj) / 2 = h := ⟨(ni + nj) / 2, by omega⟩
      have hb1 : ni ≤ h := by omega
      have hb2 : h < nj := by omega
      rw [hh]
      clear hh
      have d1 := HIr.out.cellG h (by omega)
      have d0 := HIr.out.cellG a (by omega)
      have f1 := HIr.out.fz h
      have f0 := HIr.out.fz a
      obtain ⟨r10, r11⟩ := HR.out (xs.getD h 0) (mem_getD (by omega))
      obtain ⟨r00, r01⟩ := HR.out (xs.getD a 0) (mem_getD (by omega))
      have hup : ∀ k, a + 1 ≤ k → k ≤ h → keyOf total sum ws (xs.getD h 0) ≤ keyOf total sum ws (xs.getD k 0) := fun k k1 k2 => by
        by_cases e : k = h
        · rw [e]; exact Int.le_refl _
        · exact HDS.out k h k1 (by omega) (by omega)
      have hdn : ∀ k, h ≤ k → k < b → keyOf total sum ws (xs.getD k 0) ≤ keyOf total sum ws (xs.getD h 0) := fun k k1 k2 => by
        by_cases e : k = h
        · rw [e]; exact Int.le_refl _
        · exact HDS.out h k (by omega) (by omega) k2
      have HUP := Lib.hid hup
      have HDN := Lib.hid hdn
      obtain ⟨x1, hx1⟩ : ∃ x, x = xs.getD h 0 := ⟨_, rfl⟩
      obtain ⟨x0, hx0⟩ : ∃ x, x = xs.getD a 0 := ⟨_, rfl⟩
      rw [← hx1] at d1 r10 r11
      rw [← hx0] at d0 r00 r01
      have HX1 := Lib.hid hx1
      have HX0 := Lib.hid hx0
      clear hup hdn hx1 hx0
      by_cases hc : keyOf total sum ws x0 < keyOf total sum ws x1
      · have hcb : cmpI (keyOf total sum ws x0) (keyOf total sum ws x1) = -1 := by simp [cmpI, hc]
        have HCB := Lib.hid hcb
        have HC := Lib.hid hc
        clear hcb hc
        go_quiet ((go_at_call 29; exact Calls.quiet_of (HCB.out ▸ cmp_any p q s bw off cap total sum ws x1 x0 _ (HEr.out.drewN _) r10 r11 r00 r01)))
        go_wp2
        go_roundw
        case rel =>
          have hk := HC.out
          rw [HX1.out, HX0.out] at hk
          exact ⟨h + 1, nj, by go_num, rfl, by omega, by omega, h3, fun k k1 k2 => by have := HUP.out k k1 (by omega); omega, HHI.out, HIr.out.drewN _, HKr.out.drewN _⟩
        case measure => simp [intOf]; omega
      · obtain ⟨cv, hcv⟩ : ∃ cv, cv = cmpI (keyOf total sum ws x0) (keyOf total sum ws x1) := ⟨_, rfl⟩
        have hcb' : ¬ cv < 0 := by rw [hcv, cmpI_neg]; exact hc
        have HC := Lib.hid hc
        have HCV := Lib.hid hcv.symm
        clear hc hcv
        go_quiet ((go_at_call 29; exact Calls.quiet_of (HCV.out ▸ cmp_any p q s bw off cap total sum ws x1 x0 _ (HEr.out.drewN _) r10 r11 r00 r01)))
        go_wp2
        go_roundw
        case rel =>
          have hk := HC.out
          rw [HX1.out, HX0.out] at hk
          exact ⟨ni, h, rfl, rfl, h1, by omega, by omega, HLO.out, fun k k1 k2 => by have := HDN.out k k1 k2; omega, HIr.out.drewN _, HKr.out.drewN _⟩
        case measure => simp [intOf]; omega
    · obtain rfl : ni = nj := by omega
      go_wp2
      obtain ⟨wo, hwo⟩ : ∃ wo : World, wo = wr := ⟨_, rfl⟩
      go_loopw [13] (fun i wi => ∃ (k : Nat) (ys : List Int), a ≤ k ∧ k + 1 ≤ ni ∧ i = .int .i64 k ∧ Ride (keyOf total sum ws) xs ys a b k ∧ Ints 3 wi g ys ∧ Keeps [g] w wi) (fun i _ => ni - (intOf i).toNat)
      case atStart => exact ⟨a, xs, by omega, by omega, rfl, Ride.start HST.out, HIr.out, HKr.out⟩
      case round =>
        obtain ⟨k, ys, hk1, hk2, rfl, hR, hI, hK⟩ := hrel
        have hl := hR.turned.len
        have HRd := Lib.hid hR
        have HIz := Lib.hid hI
        have HKz := Lib.hid hK
        by_cases hkk : k + 1 < ni
        · have hg1 : (k : Int) < (ni : Int) - 1 := by omega
          have d1 := hI.cellG (k + 1) (by omega)
          have d0 := hI.cellG k (by omega)
          have f1 := hI.fz (k + 1)
          have f0 := hI.fz k
          have hsw := hI.swp k (k + 1)
          obtain ⟨x1, hx1⟩ : ∃ x, x = ys.getD (k + 1) 0 := ⟨_, rfl⟩
          obtain ⟨x0, hx0⟩ : ∃ x, x = ys.getD k 0 := ⟨_, rfl⟩
          rw [← hx1] at d1 hsw
          rw [← hx0] at d0 hsw
          have HSW := Lib.hid hsw
          clear hI hK hR hsw hx1 hx0
          go_wp2
          go_region
          go_wp2
          go_roundw
          case rel => exact ⟨k + 1, swp ys k (k + 1), by omega, by omega, by go_num, HRd.out.step hk1 hkk h3 hb HLO.out, HSW.out, (HKz.out.drew.setCell (by simp) _).setCell (by simp) _⟩
          case measure => simp [intOf]; omega
        · have hg1 : ¬ ((k : Int) < (ni : Int) - 1) := by omega
          have hg2 : k + 1 = ni := by omega
          have HG := Lib.hid hg2
          clear hI hK hR hg2
          go_wp2
          refine bodyPost_ret (results_none rfl _ _ _) rfl ?_
          exact ⟨rfl, ys, HIz.out, HRd.out.turned, HRd.out.stab, HRd.out.done hk1 HG.out h3 HDS.out HLO.out HHI.out, HKz.out⟩

end Go.Proofs.Ytdpmkbiibmjbfaa
