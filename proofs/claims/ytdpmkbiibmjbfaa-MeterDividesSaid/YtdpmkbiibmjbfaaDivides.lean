/- The walk of MeterDivides: it returns true and leaves old memory as it was. Conditions: the two slices lie in memory. -/
import Derived.Test.YtdpmkbiibmjbfaaLives
import Derived.Test.YtdpmkbiibmjbfaaShares0
import Derived.Test.YtdpmkbiibmjbfaaRow
namespace Go.Proofs.Ytdpmkbiibmjbfaa
open Go.RowKit

/-- The weights that MeterDivides makes. -/
def divWs (xs : List Int) : List Int := (xs.take 9).map fun x => 1 + aroundF x 50
theorem divWs_length (xs : List Int) : (divWs xs).length = min 9 xs.length := by simp [divWs]
theorem divWs_take (xs : List Int) (k : Nat) (h : k < min 9 xs.length) : (divWs xs).take (k + 1) = (divWs xs).take k ++ [1 + aroundF (xs.getD k 0) 50] := by
  rw [take_snoc _ _ (by rw [divWs_length]; exact h)]
  congr 2
  have : k < xs.length := by omega
  have : k < 9 := by omega
  simp [divWs, *]
theorem divWs_bd (xs : List Int) : ∀ x ∈ divWs xs, 1 ≤ x ∧ x ≤ 50 := by
  intro x hx
  simp only [divWs, List.mem_map] at hx
  obtain ⟨y, _, rfl⟩ := hx
  have := aroundF_bd y 50 (by omega)
  omega
theorem sumL_pos (l : List Int) (h : ∀ x ∈ l, 1 ≤ x) (hl : 0 < l.length) : 0 < sumL l := by
  cases l with
  | nil => simp at hl
  | cons y l =>
    have h1 := sumL_nonneg l (fun z hz => by have := h z (by simp [hz]); omega)
    have h2 := h y (by simp)
    simp only [sumL, List.foldr_cons] at h1 ⊢
    omega

theorem usedAt_same (tk tick u : Int) (h0 : 0 ≤ tk) (h1 : tk < 10) (h2 : 0 ≤ tick) (h3 : tick < 10) : usedAt 10 tk tick [u] = [u] := by
  have e1 : tk / 10 = 0 := by omega
  have e2 : tick / 10 = 0 := by omega
  simp [usedAt, freshB, e1, e2]
theorem wrongF_ok (tk n tick : Int) (h0 : 0 ≤ n) (h1 : n ≤ 1099511627776) (h2 : 0 ≤ tick) (h3 : tick ≤ 1099511627776) (h4 : tk ≤ tick) : wrongF tk (([0] : List Int).length) 0 n tick = 0 := by
  unfold wrongF outB
  split
  · rename_i h
    simp at h
    omega
  · split
    · omega
    · rfl

/-- Take of a meter with one rule within its first period. -/
theorem take_one (b u : Nat) (p tk x want tick : Int) (w : World) (hM : MeterAt w b u p 10 tk [x]) (h0 : 0 ≤ want) (h1 : want ≤ 1099511627776) (h2 : tk ≤ tick) (h3 : 0 ≤ tick) (h4 : tick < 10) :
    Calls Try.prog 16 #[.pointer (some ⟨b, 0, none⟩), .int .i64 0, .int .i64 want, .int .i64 tick] w fun e w' =>
      e = .returned (.tuple #[.int .i64 (min want (p - x)), .int .i64 0]) ∧ MeterAt w' b u p 10 tick [x + min want (p - x)] ∧ Keeps [b, u] w w' := by
  have h := take_ok b u p 10 tk [x] 0 want tick w hM (wrongF_ok tk want tick h0 h1 h3 (by omega) h2)
  rw [usedAt_same tk tick x hM.tck.1 (by omega) h3 h4] at h
  exact h

set_option maxRecDepth 100000 in
set_option maxHeartbeats 4000000 in
theorem divides_walk (t : Int) (a1 a2 : Option Addr) (c1 c2 : Nat) (xs ys : List Int) (w : World) (ht : I64 t) (hx : IntsIn w a1 xs) (hxb : ∀ x ∈ xs, I64 x) (hxl : xs.length ≤ 9223372036854775807) (hy : IntsIn w a2 ys) (hyb : ∀ x ∈ ys, I64 x) (hyl : ys.length ≤ 9223372036854775807) :
    Calls Try.prog 5 #[.int .i64 t, .slice a1 xs.length c1, .slice a2 ys.length c2] w fun e w' => e = .returned (.bool true) ∧ Keeps [] w w' := by
  have HX := Lib.hid hx
  have HY := Lib.hid hy
  have HXB := Lib.hid hxb
  have HYB := Lib.hid hyb
  obtain ⟨i0, hi, hz0, hz1, hz2⟩ := info_parts info3
  have Hi := Lib.hid hi
  have Hz0 := Lib.hid hz0
  have Hz1 := Lib.hid hz1
  have Hz2 := Lib.hid hz2
  clear hx hy hxb hyb hi hz0 hz1 hz2
  go_enter Try.func5, Try.ntmps5
  go_wp2_with fail
  refine (around_any t 10000 w (by omega) ht).mono ?_
  rintro e w' ⟨rfl, rfl⟩
  obtain ⟨t0, t1⟩ := aroundF_bd t 10000 (by omega)
  generalize aroundF t 10000 = T at *
  go_wp2
  go_loopw [8, 9] (fun v i wr => ∃ (k : Nat) (a : Option Nat) (c : Nat), k ≤ min 9 xs.length ∧ i = .int .i64 k ∧ v = sv a k c ∧ SliceAt wr 3 1 a k c (((divWs xs).take k).map (Value.int .i64)) ∧ Keeps [] w wr ∧ (∀ g, a = some g → w.heap.size ≤ g) ∧ (0 < k → a.isSome = true)) (fun _ i _ => 9 - (intOf i).toNat)
  case atStart => exact ⟨0, none, 0, Nat.zero_le _, rfl, rfl, SliceAt.nil _ _ _, Keeps.refl _ _, by simp, by simp⟩
  case round =>
    obtain ⟨k, a, c, hk, rfl, rfl, hsl, hkp, ha, hs⟩ := hrel
    have HSL := Lib.hid hsl
    have HK := Lib.hid hkp
    have HA := Lib.hid ha
    have HSM := Lib.hid hs
    clear hsl hkp ha hs
    by_cases hlt : k < min 9 xs.length
    · obtain ⟨b, off, rfl, hcx⟩ := HX.out (by omega)
      have hkx : k < xs.length := by omega
      have hk9 : k < 9 := by omega
      have hk9' : (k : Int) < 9 := by omega
      have dx := HK.out.cell (hcx k hkx) (by simp)
      have hxk := HXB.out (xs.getD k 0) (by rw [List.getD_eq_getElem?_getD, List.getElem?_eq_getElem hkx]; simp)
      have htk := divWs_take xs k hlt
      obtain ⟨x, hx⟩ : ∃ x, x = xs.getD k 0 := ⟨_, rfl⟩
      rw [← hx] at dx hxk htk
      have HTK := Lib.hid htk
      clear hcx hx htk
      go_wp2_with fail
      refine (around_any x 50 _ (by omega) hxk).mono ?_
      rintro e w' ⟨rfl, rfl⟩
      obtain ⟨y0, y1⟩ := aroundF_bd x 50 (by omega)
      generalize aroundF x 50 = y at *
      go_wp2_with (at_builtin; refine wpList_append_sl rfl (.tmp 33) (.tmp 40) 22 rfl 3 i0 _ 1 8 Try.underlying22 Hi.out Hz0.out Hz1.out Hz2.out rfl (by decide) a k c _ rfl (HSL.out.alloc _) ⟨wr.heap.size, 0, none⟩ 1 1 [.int .i64 (1 + y)] rfl rfl ?hnews (int_one _) (by decide) (by omega) (by omega) ?hk)
      case hnews => exact news_row' _ _ _ _ rfl
      case hk =>
        intro g c' w2 hsl hk2 hg
        have hK2 : Keeps [] w w2 := ((HK.out.alloc _).after hk2 (by intro x hx; simp at hx; exact .inr (HA.out x hx)))
        have hG2 : w.heap.size ≤ g := by rcases hg with hg | hg; exact HA.out g hg; have := HK.out.size; omega
        have HSL2 := Lib.hid hsl
        have HK2 := Lib.hid hK2
        clear hsl hk2 hg hK2
        go_wp2
        go_roundw
        case rel => exact ⟨k + 1, some g, c', by omega, by go_num, rfl, by rw [HTK.out, List.map_append, List.map_take]; exact HSL2.out, HK2.out, by intro g' hg'; simp at hg'; omega, by simp⟩
        case measure => simp [intOf]; omega
    · obtain rfl : k = min 9 xs.length := by omega
      have hwl := divWs_length xs
      have htk : (divWs xs).take (min 9 xs.length) = divWs xs := List.take_of_length_le (by omega)
      rw [htk] at HSL
      by_cases h0 : xs.length = 0
      · have hm : min 9 xs.length = 0 := by omega
        rw [hm] at HSL ⊢
        simp only [sv]
        have hlt2 : ¬ (0 : Int) < (xs.length : Int) := by omega
        clear htk hwl h0 hm hlt hk
        go_wp2_with fail
        refine (shares_empty T _ c wr t0 (by omega)).mono ?_
        rintro e w1 ⟨rfl, hk1⟩
        have HK1 := Lib.hid (HK.out.trans hk1)
        clear hk1
        go_wp2_with fail
        refine (lives_any w1).mono ?_
        rintro e w2 ⟨rfl, hk2⟩
        have HK2 := Lib.hid (HK1.out.trans hk2)
        clear hk2
        go_wp2
        go_ret
        exact ⟨rfl, HK2.out⟩
      · have hwp : 0 < (divWs xs).length := by omega
        have hwb : ∀ x ∈ divWs xs, 0 ≤ x ∧ x ≤ 1048576 := fun x hx => by have := divWs_bd xs x hx; omega
        have hws : 0 < sumL (divWs xs) := sumL_pos _ (fun x hx => (divWs_bd xs x hx).1) hwp
        have hsome := HSM.out (by omega)
        cases a with
        | none => simp at hsome
        | some gw =>
        obtain ⟨n, hn⟩ : ∃ n, n = (divWs xs).length := ⟨_, rfl⟩
        rw [← hwl, ← hn] at HSL ⊢
        have hn9 : n ≤ 9 := by omega
        have hnx : n ≤ xs.length := by omega
        have hnm : n = xs.length ∨ n = 9 := by omega
        have hn1 : 1 ≤ n := by omega
        have hgw : gw < wr.heap.size := HSL.out.lt
        have hcel : ∀ j, j < (divWs xs).length → wr.cell? ⟨gw, 0 + j, none⟩ = some (.int .i64 ((divWs xs).getD j 0)) := fun j hj => by
          rw [Nat.zero_add, HSL.out.cell j (by simpa using hj)]; simp [hj]
        have hsh := shares_ok T (divWs xs) gw 0 c wr t0 (by omega) hwb (by omega) hws hcel hgw (sorts_small _ (by omega))
        rw [← hn] at hsh
        have HSH := Lib.hid hsh
        have HN := Lib.hid hn
        have HWB := Lib.hid hwb
        have HWS := Lib.hid hws
        clear hsh hn hwb hws hcel htk hwl h0 hwp hlt hk
        simp only [sv, Option.map_some]
        have hsplit : (n : Int) < (xs.length : Int) ∧ ¬ (n : Int) < 9 ∨ ¬ (n : Int) < (xs.length : Int) := by omega
        have hnz : (n == 0) = false := by simp; omega
        have hnz' : ((n : Int) == 0) = false := by simp; omega
        rcases hsplit with ⟨hs1, hs2⟩ | hs1
        all_goals
          go_wp2_with fail
          refine Calls.mono HSH.out ?_
          rintro e w1 ⟨g, ord, rfl, hg, hk1, hpm, hpw, hI⟩
          have hps := parts_sum T (divWs xs) ord t0 (fun x hx => (HWB.out x hx).1) HWS.out (fun x hx => upTo_mem _ _ (hpm.mem_iff.1 hx)) (by rw [hpm.length_eq, upTo_length]) (hpm.nodup_iff.2 (upTo_nodup _))
          have hpl : (bump (bases T (sumL (divWs xs)) (divWs xs)) (ord.take (T - sumL (bases T (sumL (divWs xs)) (divWs xs))).toNat)).length = n := by rw [bump_length, bases_length, HN.out]
          generalize bump (bases T (sumL (divWs xs)) (divWs xs)) (ord.take (T - sumL (bases T (sumL (divWs xs)) (divWs xs))).toNat) = ps at *
          have hpn : (divWs xs).length = n := HN.out.symm
          rw [hpn]
          have HPS := Lib.hid hps
          have HPL := Lib.hid hpl
          have HI := Lib.hid hI
          have HK1 := Lib.hid (HK.out.trans hk1)
          have hg0 : w.heap.size ≤ g := by have := HK.out.size; omega
          clear hps hpl hI hk1 hpm hpw hpn hg
          go_wp2
          obtain ⟨wo, hwo⟩ : ∃ wo : World, wo = wr := ⟨_, rfl⟩
          go_loopw [12, 13] (fun G i wl => ∃ k : Nat, k ≤ n ∧ i = .int .i64 k ∧ G = .int .i64 (sumL (ps.take k)) ∧ Ints 3 wl g ps ∧ Keeps [] w wl) (fun _ i _ => n - (intOf i).toNat)
          case atStart => exact ⟨0, Nat.zero_le _, rfl, rfl, HI.out, HK1.out⟩
          case round =>
            obtain ⟨k, hk, rfl, rfl, hI, hK⟩ := hrel
            by_cases hlt : k < n
            · have hpk := HPS.out.2 (ps.getD k 0) (by rw [List.getD_eq_getElem?_getD, List.getElem?_eq_getElem (by rw [HPL.out]; exact hlt)]; simp)
              have hpk2 := mem_le_sumL ps HPS.out.2 (ps.getD k 0) (by rw [List.getD_eq_getElem?_getD, List.getElem?_eq_getElem (by rw [HPL.out]; exact hlt)]; simp)
              rw [HPS.out.1] at hpk2
              have hst := sumL_take ps k (by rw [HPL.out]; exact hlt)
              have hG0 := sumL_nonneg (ps.take k) (fun x hx => HPS.out.2 x (List.mem_of_mem_take hx))
              have hG1 : sumL (ps.take k) ≤ 10000 * 9 := by
                have h1 := (sumL_bd (ps.take k) 10000 (fun x hx => ⟨HPS.out.2 x (List.mem_of_mem_take hx), by
                  have := mem_le_sumL ps HPS.out.2 x (List.mem_of_mem_take hx); rw [HPS.out.1] at this; omega⟩)).2
                have h2 : (ps.take k).length = k := by simp; rw [HPL.out]; omega
                rw [h2] at h1
                omega
              have dk := hI.cellG k (by rw [HPL.out]; exact hlt)
              obtain ⟨p, hp⟩ : ∃ p, p = ps.getD k 0 := ⟨_, rfl⟩
              rw [← hp] at hpk hpk2 hst dk
              obtain ⟨G, hG⟩ : ∃ G, G = sumL (ps.take k) := ⟨_, rfl⟩
              rw [← hG] at hst hG0 hG1 ⊢
              have HI := Lib.hid hI
              have HK := Lib.hid hK
              have HST := Lib.hid hst
              have HP := Lib.hid hp
              clear hI hK hst hp hG hwo
              go_wp2_with fail
              refine (new_ok 1 p 10 _ (by simp [newBad, outB]; omega)).mono ?_
              rintro e w2 ⟨rfl, hM2, hk2, hs2⟩
              have hM2' : MeterAt w2 (wr.heap.size + 1) wr.heap.size p 10 0 [0] := hM2
              have HM2 := Lib.hid hM2'
              have HK2 := Lib.hid (HK.out.trans hk2)
              have HI2 := Lib.hid (HI.out.keep hk2 (by simp))
              have hwz : w.heap.size ≤ wr.heap.size := HK.out.size
              have hgz : g < wr.heap.size := HI.out.lt
              clear hM2 hM2' hk2 dk
              go_wp2
              obtain ⟨wo, hwo⟩ : ∃ wo : World, wo = wr := ⟨_, rfl⟩
              obtain ⟨mb, hmb⟩ : ∃ mb, mb = wr.heap.size := ⟨_, rfl⟩
              rw [← hmb] at HM2 hwz hgz ⊢
              clear hwo hmb
              go_loopw [12, 16] (fun v j wi => ∃ (m : Nat) (tk u : Int), m ≤ min 5 ys.length ∧ j = .int .i64 m ∧ v = .int .i64 (G + u) ∧ 0 ≤ u ∧ u ≤ p ∧ 0 ≤ tk ∧ tk ≤ 2 * m ∧ tk ≤ 8 ∧ MeterAt wi (mb + 1) mb p 10 tk [u] ∧ Ints 3 wi g ps ∧ Keeps [] w wi) (fun _ j _ => 5 - (intOf j).toNat)
              case atStart => exact ⟨0, 0, 0, Nat.zero_le _, rfl, by simp, by omega, by omega, by omega, by omega, by omega, HM2.out, HI2.out, HK2.out⟩
              case round =>
                obtain ⟨m, tk, u, hm, rfl, rfl, hu0, hu1, htk0, htk1, htk2, hM, hI, hK⟩ := hrel
                have HM := Lib.hid hM
                have HI := Lib.hid hI
                have HK := Lib.hid hK
                clear hM hI hK
                by_cases hlt2 : m < min 5 ys.length
                · obtain ⟨b, off, rfl, hcy⟩ := HY.out (by omega)
                  have hmy : m < ys.length := by omega
                  have hm5 : m < 5 := by omega
                  have hm5' : (m : Int) < 5 := by omega
                  have dy := HK.out.cell (hcy m hmy) (by simp)
                  have hyk := HYB.out (ys.getD m 0) (by rw [List.getD_eq_getElem?_getD, List.getElem?_eq_getElem hmy]; simp)
                  obtain ⟨y, hy⟩ : ∃ y, y = ys.getD m 0 := ⟨_, rfl⟩
                  rw [← hy] at dy hyk
                  clear hcy hy
                  go_wp2_with fail
                  refine (around_any y 5000 _ (by omega) hyk).mono ?_
                  rintro e w' ⟨rfl, rfl⟩
                  obtain ⟨q0, q1⟩ := aroundF_bd y 5000 (by omega)
                  generalize aroundF y 5000 = q at *
                  go_wp2_with fail
                  refine (take_one (mb + 1) mb p tk u q _ _ HM.out q0 (by omega) (by omega) (by omega) (by omega)).mono ?_
                  rintro e w3 ⟨rfl, hM3, hk3⟩
                  obtain ⟨v, hv⟩ : ∃ v, v = min q (p - u) := ⟨_, rfl⟩
                  rw [← hv] at hM3 ⊢
                  have hv0 : 0 ≤ v := by omega
                  have hv1 : v ≤ p - u := by omega
                  have HM3 := Lib.hid hM3
                  have HK3 := Lib.hid (HK.out.after hk3 (by simp; omega))
                  have HI3 := Lib.hid (HI.out.keep hk3 (by simp; omega))
                  have dk := HI3.out.cellG k (by rw [HPL.out]; exact hlt)
                  rw [← HP.out] at dk
                  clear hM3 hk3 hv dy
                  go_wp2
                  go_roundw
                  case rel => exact ⟨m + 1, 2 * m, u + v, by omega, by go_num, by go_num, by omega, by omega, by omega, by omega, by omega, HM3.out, HI3.out, HK3.out⟩
                  case measure => simp [intOf]; omega
                · obtain rfl : m = min 5 ys.length := by omega
                  obtain ⟨m, hmm⟩ : ∃ m, m = min 5 ys.length := ⟨_, rfl⟩
                  rw [← hmm] at htk1 ⊢
                  have hs3 : (m : Int) < (ys.length : Int) ∧ ¬ (m : Int) < 5 ∨ ¬ (m : Int) < (ys.length : Int) := by omega
                  clear hmm hlt2 hm
                  rcases hs3 with ⟨hs3, hs4⟩ | hs3
                  all_goals
                    go_wp2_with fail
                    refine (take_one (mb + 1) mb p tk u 1099511627776 9 _ HM.out (by omega) (by omega) (by omega) (by omega) (by omega)).mono ?_
                    rintro e w3 ⟨rfl, hM3, hk3⟩
                    have hv : min (1099511627776 : Int) (p - u) = p - u := by omega
                    rw [hv]
                    have HK3 := Lib.hid (HK.out.after hk3 (by simp; omega))
                    have HI3 := Lib.hid (HI.out.keep hk3 (by simp; omega))
                    have HG := Lib.hid (show G + u + (p - u) = G + p by omega)
                    clear hM3 hk3 hv
                    go_wp2
                    go_roundw
                    case rel => exact ⟨k + 1, by omega, by go_num, by rw [HST.out, ← HG.out], HI3.out, HK3.out⟩
                    case measure => simp [intOf]; omega
            · obtain rfl : k = n := by omega
              have htk : ps.take k = ps := List.take_of_length_le (by rw [HPL.out]; exact Nat.le_refl _)
              have hT : sumL (ps.take k) = T := by rw [htk]; exact HPS.out.1
              rw [hT]
              have HK := Lib.hid hK
              clear hI hK htk hT hwo
              go_wp2_with fail
              refine (lives_any _).mono ?_
              rintro e w2 ⟨rfl, hk2⟩
              have HK2 := Lib.hid (HK.out.trans hk2)
              clear hk2
              go_wp2
              go_ret
              exact ⟨rfl, HK2.out⟩

end Go.Proofs.Ytdpmkbiibmjbfaa
