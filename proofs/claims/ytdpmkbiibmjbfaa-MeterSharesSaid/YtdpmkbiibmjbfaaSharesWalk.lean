/- The walk of MeterShares: it returns true and leaves old memory as it was. Conditions: the slice lies in memory. -/
import Derived.Test.YtdpmkbiibmjbfaaRefS
import Derived.Test.YtdpmkbiibmjbfaaLives
import Derived.Test.YtdpmkbiibmjbfaaRow
import Derived.Deep.DeepCutAuto
import Derived.Deep.RegionHeld3
namespace Go.Proofs.Ytdpmkbiibmjbfaa
open Go.RowKit

theorem IntsIn.keep {S : List Nat} {w w' : World} {a : Option Addr} {xs : List Int} (h : IntsIn w a xs) (k : Keeps S w w') (hs : ∀ b, a = some b → b.block ∉ S) : IntsIn w' a xs := fun h0 => by
  obtain ⟨b, off, h1, h2⟩ := h h0
  exact ⟨b, off, h1, fun j hj => k.cell (h2 j hj) (hs ⟨b, off, none⟩ h1)⟩
theorem IntsIn.take {w : World} {a : Option Addr} {xs : List Int} (h : IntsIn w a xs) (m : Nat) : IntsIn w a (xs.take m) := fun h0 => by
  have h1 : 0 < xs.length := by rw [List.length_take] at h0; omega
  obtain ⟨b, off, h2, h3⟩ := h h1
  refine ⟨b, off, h2, fun j hj => ?_⟩
  rw [List.length_take] at hj
  rw [h3 j (by omega)]
  have e1 : j < m := by omega
  simp [List.getD_eq_getElem?_getD, e1]

theorem addr_add (b off j : Nat) : (⟨b, off, none⟩ : Addr).add j = ⟨b, off + j, none⟩ := by unfold Addr.add; split <;> simp_all
theorem answer_length {T : Int} {ws : List Int} {code : Int} {ps : List Int} (h : Answer T ws code ps) : ps.length ≤ ws.length := by
  cases h with
  | parts _ _ _ _ ord _ _ => rw [bump_length, bases_length]; exact Nat.le_refl _
  | _ => exact Nat.zero_le _

/-- The lists and totals of the law, at a world. -/
structure LState (w wr : World) (LB TB : Nat) (ads : Nat → Option Addr) (ls : Nat → List Int) (cs : Nat → Nat) (ts : Nat → Int) : Prop where
  l : ∀ i, i < 6 → wr.cell? ⟨LB, i, none⟩ = some (.slice (ads i) (ls i).length (cs i))
  c : ∀ i, i < 6 → IntsIn wr (ads i) (ls i)
  t : ∀ k, k < 3 → wr.cell? ⟨TB, k, none⟩ = some (.int .i64 (ts k))
  kp : Keeps [] w wr
theorem LState.keep {w wr w' : World} {LB TB : Nat} {ads : Nat → Option Addr} {ls : Nat → List Int} {cs : Nat → Nat} {ts : Nat → Int} (h : LState w wr LB TB ads ls cs ts) (k : Keeps [] wr w') : LState w w' LB TB ads ls cs ts :=
  ⟨fun i hi => k.cell (h.l i hi) (by simp), fun i hi => (h.c i hi).keep k (by simp), fun i hi => k.cell (h.t i hi) (by simp), h.kp.trans k⟩

set_option maxRecDepth 100000 in
set_option maxHeartbeats 8000000 in
theorem shares_walk (T : Int) (a1 : Option Addr) (c1 : Nat) (xs : List Int) (at' by' nn : Int) (w : World) (hT : I64 T) (hx : IntsIn w a1 xs) (hxb : ∀ x ∈ xs, I64 x) (hxl : xs.length ≤ c1) (hcl : c1 ≤ 9223372036854775807) (hat : I64 at') (hby : I64 by') (hnn : I64 nn) :
    Calls Try.prog 3 #[.int .i64 T, .slice a1 xs.length c1, .int .i64 at', .int .i64 by', .int .i64 nn] w fun e w' => e = .returned (.bool true) ∧ Keeps [] w w' := by
  have HXB := Lib.hid hxb
  have HX := Lib.hid hx
  obtain ⟨i0, hi, hz0, hz1, hz2⟩ := info_parts info3
  have Hi := Lib.hid hi
  have Hz0 := Lib.hid hz0
  have Hz1 := Lib.hid hz1
  have Hz2 := Lib.hid hz2
  clear hx hxb hi hz0 hz1 hz2
  go_enter Try.func3, Try.ntmps3
  go_upto_region 1 with fail
  go_cut [11] (fun s11 wx => s11 = .slice a1 (xs.take 20).length c1 ∧ w = wx)
  case first => as_aux_lemma =>
    by_cases c : 20 < xs.length
    · have hc2 : (xs.take 20).length = 20 := by rw [List.length_take]; omega
      have hc3 : (20 : Int) < (xs.length : Int) := by omega
      have HC2 := Lib.hid hc2
      clear c hc2
      go_wp2
      go_meet
      exact ⟨by rw [HC2.out], rfl⟩
    · have hc2 : (xs.take 20).length = xs.length := by rw [List.length_take]; omega
      have hc3 : ¬ (20 : Int) < (xs.length : Int) := by omega
      have HC2 := Lib.hid hc2
      clear c hc2
      go_wp2
      go_meet
      exact ⟨by rw [HC2.out], rfl⟩
  case rest =>
  obtain ⟨rfl, rfl⟩ := hcut
  have HY := Lib.hid (HX.out.take 20)
  have HYB := Lib.hid (show ∀ x ∈ xs.take 20, I64 x from fun x hx => HXB.out x (List.mem_of_mem_take hx))
  have hyl : (xs.take 20).length ≤ 20 := by rw [List.length_take]; omega
  generalize xs.take 20 = ys at *
  clear HX HXB
  go_upto_region 2 with fail
  go_cut [12] (fun s12 wx => ∃ (g c2 : Nat) (w5 : World), w5 = wx ∧ s12 = .slice (some ⟨g, 0, none⟩) ys.length c2 ∧ (0 < ys.length → SliceAt w5 3 1 (some g) ys.length c2 (ys.map (Value.int .i64))) ∧ Keeps [] w w5 ∧ w.heap.size ≤ g ∧ g < w5.heap.size)
  case first => as_aux_lemma =>
    by_cases h0 : ys.length = 0
    · obtain rfl := List.eq_nil_of_length_eq_zero h0
      have HAL := Lib.hid (show (w.alloc (.cells #[] 3)).heap.size = w.heap.size + 1 by simp)
      cases a1
      all_goals
        go_wp2
        go_meet
        refine ⟨_, _, _, rfl, rfl, fun h => absurd h (Nat.lt_irrefl 0), (Keeps.refl [] w).alloc _, Nat.le_refl _, ?_⟩
        rw [HAL.out]
        exact Nat.lt_succ_self _
    · obtain ⟨b, off, rfl, hc⟩ := HY.out (by omega)
      have HC := Lib.hid hc
      clear hc
      have h0' : 0 < ys.length := by omega
      go_wp2_with (at_builtin; refine wpList_append_sl rfl (.tmp 29) (.tmp 30) 22 rfl 3 i0 _ 1 8 Try.underlying22 Hi.out Hz0.out Hz1.out Hz2.out rfl (by decide) (some w.heap.size) 0 0 [] rfl ?hown ⟨b, off, none⟩ ys.length c1 (ys.map (Value.int .i64)) rfl (by simp) ?hnews ?hone h0' (by omega) (by omega) ?hk)
      case hown => exact ⟨by simp, #[], heap_alloc_new _ _, Nat.le_refl _, Nat.zero_le _, rfl, rfl⟩
      case hnews =>
        intro j u hj
        have hj2 : j < ys.length := by
          have := (List.getElem?_eq_some_iff.1 hj).1
          simpa using this
        simp [hj2] at hj
        subst hj
        have := ((Keeps.refl [] w).alloc (.cells #[] 3)).cell (HC.out j hj2) (by simp)
        simp [hj2] at this
        rw [addr_add]
        exact this
      case hone => intro u hu; simp at hu; obtain ⟨x, _, rfl⟩ := hu; rfl
      case hk =>
        intro g c' w2 hsl hk2 hg
        have hK2 : Keeps [] w w2 := ((Keeps.refl [] w).alloc _).after hk2 (by intro x hx; simp at hx; exact .inr (by omega))
        have hal : (w.alloc (.cells #[] 3)).heap.size = w.heap.size + 1 := by simp
        have hG2 : w.heap.size ≤ g := by rcases hg with hg | hg; exact Nat.le_of_eq hg; omega
        have hg9 := hsl.lt
        clear hal
        have HSL := Lib.hid hsl
        have HK2 := Lib.hid hK2
        clear hsl hk2 hg hK2
        go_wp2
        go_meet
        exact ⟨g, c', w2, rfl, by simp, fun _ => by simpa using HSL.out, HK2.out, hG2, hg9⟩
  case rest =>
    obtain ⟨g, c2, w5, rfl, rfl, hS5, hK5, hG5, hg5⟩ := hcut
    have HS5 := Lib.hid hS5
    have HK5 := Lib.hid hK5
    clear hS5 hK5
    go_upto_if 34 with fail
    go_cut [12] (fun s12 wx => ∃ (bs : List Int) (w6 : World), w6 = wx ∧ s12 = .slice (some ⟨g, 0, none⟩) ys.length c2 ∧ bs.length = ys.length ∧ IntsIn w6 (some ⟨g, 0, none⟩) bs ∧ Keeps [] w w6 ∧ g < w6.heap.size)
    case first => as_aux_lemma =>
      by_cases h0 : ys.length = 0
      · go_wp2
        go_meet
        exact ⟨[], _, rfl, rfl, by simp [h0], fun h => by simp at h, HK5.out, hg5⟩
      · have h0' : 0 < ys.length := by omega
        have hS := HS5.out h0'
        obtain ⟨q0, q1⟩ := aroundF_bd at' ys.length (by omega)
        have d1 : w5.cell? ⟨g, (aroundF at' ys.length).toNat, none⟩ = some (.int .i64 (ys.getD (aroundF at' ys.length).toNat 0)) := by
          have hj : (aroundF at' ys.length).toNat < ys.length := by omega
          rw [hS.cell _ (by simpa using hj)]; simp [hj]
        have f1 := hS.fz (aroundF at' ys.length).toNat
        have HS := Lib.hid hS
        clear hS
        go_wp2_with fail
        refine (around_any at' ys.length _ (by omega) hat).mono ?_
        rintro e w' ⟨rfl, rfl⟩
        generalize aroundF at' ys.length = q at *
        go_wp2
        go_meet
        refine ⟨ys.set q.toNat by', _, rfl, rfl, by simp, ?_, HK5.out.setCell (.inr hG5) _, by simpa using hg5⟩
        have h1 := HS.out.set q.toNat (.int .i64 by')
        rw [← List.map_set] at h1
        exact h1.to_in
    case rest =>
      obtain ⟨bs, w6, rfl, rfl, hbl, hB6, hK6, hg6⟩ := hcut
      have HB6 := Lib.hid hB6
      have HK6 := Lib.hid hK6
      have HBL := Lib.hid hbl
      clear hB6 hK6 HS5 HK5 hbl
      go_wp2
      obtain ⟨sm, hsm⟩ : ∃ sm, sm = ys.map fun x => aroundF x 9 := ⟨_, rfl⟩
      have hsl : sm.length = ys.length := by rw [hsm]; simp
      have HSM := Lib.hid hsm
      have HSN := Lib.hid hsl
      clear hsm hsl
      go_loopw [13, 14] (fun v i wr => ∃ (k : Nat) (a : Option Nat) (c : Nat), k ≤ ys.length ∧ i = .int .i64 k ∧ v = sv a k c ∧ SliceAt wr 3 1 a k c ((sm.take k).map (Value.int .i64)) ∧ IntsIn wr (some ⟨g, 0, none⟩) bs ∧ Keeps [] w wr ∧ g < wr.heap.size ∧ (∀ z, a = some z → w.heap.size ≤ z ∧ z ≠ g)) (fun _ i _ => ys.length - (intOf i).toNat)
      case atStart => exact ⟨0, none, 0, Nat.zero_le _, rfl, rfl, SliceAt.nil _ _ _, HB6.out, HK6.out, hg6, by simp⟩
      case round =>
        obtain ⟨k, a, c, hk, rfl, rfl, hsl, hb, hkp, hgl, ha⟩ := hrel
        have HSL := Lib.hid hsl
        have HBB := Lib.hid hb
        have HK := Lib.hid hkp
        have HA := Lib.hid ha
        clear hsl hb hkp ha HB6 HK6
        by_cases hlt : k < ys.length
        · obtain ⟨b, off, rfl, hcx⟩ := HY.out (by omega)
          have dx := HK.out.cell (hcx k hlt) (by simp)
          have hxk := HYB.out (ys.getD k 0) (mem_getD hlt)
          have htk : sm.take (k + 1) = sm.take k ++ [aroundF (ys.getD k 0) 9] := by
            rw [take_snoc _ _ (by rw [HSN.out]; exact hlt)]
            congr 2
            rw [HSM.out]
            simp [hlt]
          obtain ⟨x, hx⟩ : ∃ x, x = ys.getD k 0 := ⟨_, rfl⟩
          rw [← hx] at dx hxk htk
          have HTK := Lib.hid htk
          have hlk : (sm.take k).length = k := by rw [List.length_take, HSN.out]; omega
          have HLK := Lib.hid hlk
          clear hcx hx htk hlk
          go_wp2_with fail
          refine (around_any x 9 _ (by omega) hxk).mono ?_
          rintro e w' ⟨rfl, rfl⟩
          generalize aroundF x 9 = y at *
          go_wp2_with (at_builtin; refine wpList_append_sl rfl (.tmp 48) (.tmp 54) 22 rfl 3 i0 _ 1 8 Try.underlying22 Hi.out Hz0.out Hz1.out Hz2.out rfl (by decide) a k c _ rfl (HSL.out.alloc _) ⟨wr.heap.size, 0, none⟩ 1 1 [.int .i64 y] rfl rfl ?hnews (int_one _) (by decide) (by omega) (by omega) ?hk)
          case hnews => exact news_row' _ _ _ _ rfl
          case hk =>
            intro z c' w2 hsl hk2 hz
            have HAL := Lib.hid (show (wr.alloc (.cells #[.int .i64 y] 3)).heap.size = wr.heap.size + 1 by simp)
            have hK2 : Keeps [] w w2 := ((HK.out.alloc _).after hk2 (by intro x hx; simp at hx; exact .inr (HA.out x hx).1))
            have hZ2 : w.heap.size ≤ z ∧ z ≠ g := by
              rcases hz with hz | hz
              · exact HA.out z hz
              · have := HK.out.size; omega
            have hb2 : IntsIn w2 (some ⟨g, 0, none⟩) bs := (HBB.out.keep ((Keeps.refl [] wr).alloc (.cells #[.int .i64 y] 3)) (by simp)).keep hk2 (by
              intro b hb hin
              simp at hb
              subst hb
              simp at hin
              exact (HA.out g hin).2 rfl)
            have hg2 : g < w2.heap.size := by have := hk2.size; rw [HAL.out] at this; omega
            have HSL2 := Lib.hid hsl
            have HK2 := Lib.hid hK2
            have HB2 := Lib.hid hb2
            clear hsl hk2 hz hK2 hb2 HAL
            go_wp2
            go_roundw
            case rel => exact ⟨k + 1, some z, c', by omega, by go_num, rfl, by rw [HTK.out, List.map_append, List.map_take]; exact HSL2.out, HB2.out, HK2.out, hg2, by intro z' hz'; simp at hz'; subst hz'; exact hZ2⟩
            case measure => simp [intOf]; omega
        · obtain rfl : k = ys.length := by omega
          have hst : sm.take ys.length = sm := List.take_of_length_le (by rw [HSN.out]; exact Nat.le_refl _)
          rw [hst] at HSL
          have HS := Lib.hid HSL.out.to_in
          have HAW := Lib.hid (show ∀ z, a = some z → z < wr.heap.size from fun z hz => by subst hz; exact HSL.out.lt)
          clear hst HSL HA
          obtain ⟨r0, r1⟩ := aroundF_bd nn 3 (by omega)
          go_wp2_with fail
          refine (around_any nn 3 _ (by omega) hnn).mono ?_
          rintro e w' ⟨rfl, rfl⟩
          generalize aroundF nn 3 = r at *
          obtain ⟨N, hN⟩ : ∃ N : Nat, (499 + r).toNat = N := ⟨_, rfl⟩
          have hmk := fun W => run_make_ints (P := Try.prog) (T := 22) Try.underlying22 Hi.out Hz0.out Hz1.out Hz2.out W (499 + r) (by omega) (by omega)
          rw [hN] at hmk
          have hN1 : 499 ≤ N := by omega
          have hN2 : N ≤ 501 := by omega
          clear hN
          go_upto_region 11 with fail
          obtain ⟨V, hV⟩ : ∃ V, V = wr.alloc (.cells (Array.replicate N (.int .i64 0)) 3) := ⟨_, rfl⟩
          obtain ⟨M, hM⟩ : ∃ M, M = wr.heap.size := ⟨_, rfl⟩
          rw [← hV, ← hM]
          have kV : Keeps [] wr V := by rw [hV]; exact (Keeps.refl [] wr).alloc _
          have iM : Ints 3 V M (List.replicate N 0) := by unfold Ints; rw [hV, hM, heap_alloc_new]; simp
          have HKV := Lib.hid (HK.out.trans kV)
          have HBV := Lib.hid (HBB.out.keep kV (by simp))
          have HSV := Lib.hid (HS.out.keep kV (by simp))
          have HAW2 := Lib.hid (show ∀ z, a = some z → z ≠ M from fun z hz => by have := HAW.out z hz; omega)
          have hgM : g ≠ M := by omega
          have hwM : w.heap.size ≤ M := by have := HK.out.size; omega
          obtain ⟨q0, q1⟩ := aroundF_bd at' N (by omega)
          have d1 : V.cell? ⟨M, (aroundF at' N).toNat, none⟩ = some (.int .i64 0) := by
            have hj : (aroundF at' N).toNat < (List.replicate N (0 : Int)).length := by simp; omega
            rw [iM.cell _ hj]; simp
          have f1 := iM.fz (aroundF at' N).toNat
          have HIM := Lib.hid iM
          clear hV hM kV iM hmk HBB HS HAW HK
          go_wp2_with fail
          refine (around_any at' N _ (by omega) hat).mono ?_
          rintro e w' ⟨rfl, rfl⟩
          generalize aroundF at' N = q at *
          go_wp2_with fail
          refine (around_any by' 3 _ (by omega) hby).mono ?_
          rintro e w' ⟨rfl, rfl⟩
          obtain ⟨p0, p1⟩ := aroundF_bd by' 3 (by omega)
          generalize aroundF by' 3 = p at *
          go_upto_region 12 with fail
          have kV : Keeps [M] V (V.setCell ⟨M, q.toNat, none⟩ (.int .i64 (1 + p))) := (Keeps.refl [M] V).setCell (.inl (by simp)) _
          have HM2 := Lib.hid (HIM.out.set q.toNat (1 + p)).to_in
          have HK2 := Lib.hid (HKV.out.setCell (p := ⟨M, q.toNat, none⟩) (.inr hwM) (.int .i64 (1 + p)))
          have HB2 := Lib.hid (HBV.out.keep kV (by intro b hb; simp at hb; subst hb; simpa using hgM))
          have HS2 := Lib.hid (HSV.out.keep kV (by
            intro b hb
            cases a with
            | none => simp at hb
            | some z => simp at hb; subst hb; simpa using HAW2.out z rfl))
          have HY2 := Lib.hid (HY.out.keep HK2.out (by simp))
          generalize V.setCell ⟨M, q.toNat, none⟩ (.int .i64 (1 + p)) = U at *
          have hml : ((List.replicate N (0 : Int)).set q.toNat (1 + p)).length = N := by simp
          generalize (List.replicate N (0 : Int)).set q.toNat (1 + p) = ms at *
          have HML := Lib.hid hml
          clear kV d1 f1 HIM HBV HSV HKV hml
          have hmk3 := fun W => run_make_ints (P := Try.prog) (T := 22) Try.underlying22 Hi.out Hz0.out Hz1.out Hz2.out W 3 (by omega) (by omega)
          simp only [show (3 : Int).toNat = 3 from rfl] at hmk3
          simp only [sv]
          go_wp2_with fail
          refine (around_any T 100 _ (by omega) hT).mono ?_
          rintro e w' ⟨rfl, rfl⟩
          obtain ⟨u0, u1⟩ := aroundF_bd T 100 (by omega)
          generalize aroundF T 100 = T2 at *
          go_wp2
          have k1 : Keeps [] U (((U.alloc (.cells #[.int .i64 0, .int .i64 0, .int .i64 0] 3)).alloc (.cells #[.slice a1 ys.length c1, .slice (some ⟨g, 0, none⟩) ys.length c2, .slice (a.map fun g => ⟨g, 0, none⟩) ys.length c, .slice (some ⟨M, 0, none⟩) N N, .slice (some ⟨U.heap.size, 0, none⟩) 3 3, .slice none 0 0] 22)).alloc (.cells #[.int .i64 T, .int .i64 T2, .int .i64 1099511627776] 3)) := (((Keeps.refl [] U).alloc _).alloc _).alloc _
          have z1 : (((U.alloc (.cells #[.int .i64 0, .int .i64 0, .int .i64 0] 3)).alloc (.cells #[.slice a1 ys.length c1, .slice (some ⟨g, 0, none⟩) ys.length c2, .slice (a.map fun g => ⟨g, 0, none⟩) ys.length c, .slice (some ⟨M, 0, none⟩) N N, .slice (some ⟨U.heap.size, 0, none⟩) 3 3, .slice none 0 0] 22)).alloc (.cells #[.int .i64 T, .int .i64 T2, .int .i64 1099511627776] 3)).heap[U.heap.size]? = some (.cells #[.int .i64 0, .int .i64 0, .int .i64 0] 3 (0, 0)) := by
            rw [heap_alloc_old _ _ (by simp; omega), heap_alloc_old _ _ (by simp), heap_alloc_new]
          have z2 : (((U.alloc (.cells #[.int .i64 0, .int .i64 0, .int .i64 0] 3)).alloc (.cells #[.slice a1 ys.length c1, .slice (some ⟨g, 0, none⟩) ys.length c2, .slice (a.map fun g => ⟨g, 0, none⟩) ys.length c, .slice (some ⟨M, 0, none⟩) N N, .slice (some ⟨U.heap.size, 0, none⟩) 3 3, .slice none 0 0] 22)).alloc (.cells #[.int .i64 T, .int .i64 T2, .int .i64 1099511627776] 3)).heap[U.heap.size + 1]? = some (.cells #[.slice a1 ys.length c1, .slice (some ⟨g, 0, none⟩) ys.length c2, .slice (a.map fun g => ⟨g, 0, none⟩) ys.length c, .slice (some ⟨M, 0, none⟩) N N, .slice (some ⟨U.heap.size, 0, none⟩) 3 3, .slice none 0 0] 22 (0, 0)) := by
            rw [heap_alloc_old _ _ (by simp)]
            have := heap_alloc_new (U.alloc (.cells #[.int .i64 0, .int .i64 0, .int .i64 0] 3)) (.cells #[.slice a1 ys.length c1, .slice (some ⟨g, 0, none⟩) ys.length c2, .slice (a.map fun g => ⟨g, 0, none⟩) ys.length c, .slice (some ⟨M, 0, none⟩) N N, .slice (some ⟨U.heap.size, 0, none⟩) 3 3, .slice none 0 0] 22)
            simpa using this
          have z3 : (((U.alloc (.cells #[.int .i64 0, .int .i64 0, .int .i64 0] 3)).alloc (.cells #[.slice a1 ys.length c1, .slice (some ⟨g, 0, none⟩) ys.length c2, .slice (a.map fun g => ⟨g, 0, none⟩) ys.length c, .slice (some ⟨M, 0, none⟩) N N, .slice (some ⟨U.heap.size, 0, none⟩) 3 3, .slice none 0 0] 22)).alloc (.cells #[.int .i64 T, .int .i64 T2, .int .i64 1099511627776] 3)).heap[U.heap.size + 1 + 1]? = some (.cells #[.int .i64 T, .int .i64 T2, .int .i64 1099511627776] 3 (0, 0)) := by
            have := heap_alloc_new ((U.alloc (.cells #[.int .i64 0, .int .i64 0, .int .i64 0] 3)).alloc (.cells #[.slice a1 ys.length c1, .slice (some ⟨g, 0, none⟩) ys.length c2, .slice (a.map fun g => ⟨g, 0, none⟩) ys.length c, .slice (some ⟨M, 0, none⟩) N N, .slice (some ⟨U.heap.size, 0, none⟩) 3 3, .slice none 0 0] 22)) (.cells #[.int .i64 T, .int .i64 T2, .int .i64 1099511627776] 3)
            simpa using this
          generalize ((U.alloc (.cells #[.int .i64 0, .int .i64 0, .int .i64 0] 3)).alloc (.cells #[.slice a1 ys.length c1, .slice (some ⟨g, 0, none⟩) ys.length c2, .slice (a.map fun g => ⟨g, 0, none⟩) ys.length c, .slice (some ⟨M, 0, none⟩) N N, .slice (some ⟨U.heap.size, 0, none⟩) 3 3, .slice none 0 0] 22)).alloc (.cells #[.int .i64 T, .int .i64 T2, .int .i64 1099511627776] 3) = X at *
          have hL : LState w X (U.heap.size + 1) (U.heap.size + 1 + 1) (fun i => [a1, some ⟨g, 0, none⟩, a.map fun g => ⟨g, 0, none⟩, some ⟨M, 0, none⟩, some ⟨U.heap.size, 0, none⟩, none].getD i none) (fun i => [ys, bs, sm, ms, [0, 0, 0], []].getD i []) (fun i => [c1, c2, c, N, 3, 0].getD i 0) (fun i => [T, T2, 1099511627776].getD i 0) := by
            refine ⟨fun i hi => ?_, fun i hi => ?_, fun i hi => ?_, HK2.out.trans k1⟩
            · have hc9 : ∀ v, #[Value.slice a1 ys.length c1, .slice (some ⟨g, 0, none⟩) ys.length c2, .slice (a.map fun g => ⟨g, 0, none⟩) ys.length c, .slice (some ⟨M, 0, none⟩) N N, .slice (some ⟨U.heap.size, 0, none⟩) 3 3, .slice none 0 0][i]? = some v → X.cell? ⟨U.heap.size + 1, i, none⟩ = some v := fun v hv => by rw [World.cell?, z2]; exact hv
              apply hc9
              obtain rfl | rfl | rfl | rfl | rfl | rfl : i = 0 ∨ i = 1 ∨ i = 2 ∨ i = 3 ∨ i = 4 ∨ i = 5 := by omega
              · rfl
              · simp [HBL.out]
              · simp [HSN.out]
              · simp [HML.out]
              · rfl
              · rfl
            · obtain rfl | rfl | rfl | rfl | rfl | rfl : i = 0 ∨ i = 1 ∨ i = 2 ∨ i = 3 ∨ i = 4 ∨ i = 5 := by omega
              · exact HY2.out.keep k1 (by simp)
              · exact HB2.out.keep k1 (by simp)
              · exact HS2.out.keep k1 (by simp)
              · exact HM2.out.keep k1 (by simp)
              · exact Ints.to_in (E := 3) (xs := [0, 0, 0]) (by unfold Ints; rw [z1]; rfl)
              · intro h; simp at h
            · have hc9 : ∀ v, #[Value.int .i64 T, .int .i64 T2, .int .i64 1099511627776][i]? = some v → X.cell? ⟨U.heap.size + 1 + 1, i, none⟩ = some v := fun v hv => by rw [World.cell?, z3]; exact hv
              apply hc9
              obtain rfl | rfl | rfl : i = 0 ∨ i = 1 ∨ i = 2 := by omega
              · rfl
              · rfl
              · rfl
          have hll : ∀ i, i < 6 → ((fun i => [ys, bs, sm, ms, [0, 0, 0], []].getD i []) i : List Int).length ≤ 1000 := fun i hi => by
            obtain rfl | rfl | rfl | rfl | rfl | rfl : i = 0 ∨ i = 1 ∨ i = 2 ∨ i = 3 ∨ i = 4 ∨ i = 5 := by omega
            · show ys.length ≤ 1000; omega
            · show bs.length ≤ 1000; rw [HBL.out]; omega
            · show sm.length ≤ 1000; rw [HSN.out]; omega
            · show ms.length ≤ 1000; rw [HML.out]; omega
            · show 3 ≤ 1000; omega
            · show 0 ≤ 1000; omega
          obtain ⟨LB, hLB⟩ : ∃ LB, LB = U.heap.size + 1 := ⟨_, rfl⟩
          rw [← hLB] at hL ⊢
          obtain ⟨TB, hTB⟩ : ∃ TB, TB = LB + 1 := ⟨_, rfl⟩
          rw [← hTB] at hL ⊢
          generalize (fun i => [a1, some ⟨g, 0, none⟩, a.map fun g => ⟨g, 0, none⟩, some ⟨M, 0, none⟩, some ⟨U.heap.size, 0, none⟩, none].getD i none : Nat → Option Addr) = ads at *
          generalize (fun i => [ys, bs, sm, ms, [0, 0, 0], []].getD i [] : Nat → List Int) = ls at *
          generalize (fun i => [c1, c2, c, N, 3, 0].getD i 0 : Nat → Nat) = cs at *
          generalize (fun i => [T, T2, 1099511627776].getD i 0 : Nat → Int) = ts at *
          have HL := Lib.hid hL
          have HLL := Lib.hid hll
          clear hL hll k1 z1 z2 z3 HY2 HB2 HS2 HM2 HK2 hmk3 hLB hTB HML HAW2 HSM HSN HBL
          go_loopw [18, 19, 20, 21, 22, 23] (fun s18 _ _ _ _ _ wl => ∃ i : Nat, i ≤ 6 ∧ s18 = .int .i64 i ∧ LState w wl LB TB ads ls cs ts) (fun s18 _ _ _ _ _ _ => 6 - (intOf s18).toNat)
          case atStart => exact ⟨0, Nat.zero_le _, rfl, HL.out⟩
          case round =>
            obtain ⟨i, hi, rfl, hL⟩ := hrel
            have HLr := Lib.hid hL
            clear hL HL
            by_cases hi6 : i < 6
            · have hi6' : (i : Int) < 6 := by omega
              have HLI := Lib.hid (HLL.out i hi6)
              go_wp2
              go_loopw [19, 20, 21, 22, 23] (fun s19 _ _ _ _ wl => ∃ k : Nat, k ≤ 3 ∧ s19 = .int .i64 k ∧ LState w wl LB TB ads ls cs ts) (fun s19 _ _ _ _ _ => 3 - (intOf s19).toNat)
              case atStart => exact ⟨0, Nat.zero_le _, rfl, HLr.out⟩
              case round =>
                obtain ⟨k, hk, rfl, hL⟩ := hrel
                by_cases hk3 : k < 3
                · have hk3' : (k : Int) < 3 := by omega
                  have dl := hL.l i hi6
                  have dt := hL.t k hk3
                  have HC := Lib.hid (hL.c i hi6)
                  have HLk := Lib.hid hL
                  obtain ⟨A, hA⟩ : ∃ A, A = ads i := ⟨_, rfl⟩
                  obtain ⟨L, hLs⟩ : ∃ L, L = ls i := ⟨_, rfl⟩
                  obtain ⟨C, hC⟩ : ∃ C, C = cs i := ⟨_, rfl⟩
                  obtain ⟨t, ht⟩ : ∃ t, t = ts k := ⟨_, rfl⟩
                  rw [← hA, ← hLs, ← hC] at dl
                  rw [← ht] at dt
                  have HAE := Lib.hid hA
                  have HLE := Lib.hid hLs
                  have HTE := Lib.hid ht
                  rw [← hA, ← hLs] at HC
                  rw [← hLs] at HLI
                  clear hL HLr hA hLs hC ht
                  go_upto_region 20 with fail
                  go_cut [20, 21] (fun s20 s21 wx => ∃ (code : Int) (ps : List Int) (A2 : Option Addr) (C2 : Nat) (w5 : World), w5 = wx ∧ s20 = .slice A2 ps.length C2 ∧ s21 = .int .i64 code ∧ Answer t L code ps ∧ IntsIn w5 A2 ps ∧ LState w w5 LB TB ads ls cs ts)
                  case first => as_aux_lemma =>
                    go_region_held3 (fun w' => w'.cell? ⟨LB, i, none⟩ = some (.slice A L.length C) ∧ w'.cell? ⟨TB, k, none⟩ = some (.int .i64 t)) (first | exact ⟨dl, dt⟩ | exact E1.out)
                      (first | (go_at_call 11; refine Calls.mono (shares_every t L A C _ HC.out (by have := HLI.out; omega)) ?_; rintro e w1 ⟨code, ps, A2, C2, rfl, hAn, hI, hk1⟩; have HAN := Lib.hid hAn; have HI := Lib.hid hI; have HK1 := Lib.hid (((Keeps.refl [] wr).drew).trans hk1); have E1 := Lib.hid (And.intro (HK1.out.cell dl (by simp)) (HK1.out.cell dt (by simp))); clear hAn hI hk1))
                    all_goals
                      go_wp2
                      go_meet
                      exact ⟨code, ps, A2, C2, _, rfl, rfl, rfl, HAN.out, HI.out, HLk.out.keep HK1.out⟩
                  case rest =>
                    obtain ⟨code, ps, A2, C2, w5, rfl, rfl, rfl, hAn, hI, hL5⟩ := hcut
                    have dl5 := hL5.l i hi6
                    have dt5 := hL5.t k hk3
                    rw [← HAE.out, ← HLE.out] at dl5
                    rw [← HTE.out] at dt5
                    have HC5 := Lib.hid (hL5.c i hi6)
                    rw [← HAE.out, ← HLE.out] at HC5
                    have HAN := Lib.hid hAn
                    have HI5 := Lib.hid hI
                    have HL5 := Lib.hid hL5
                    have hpl : ps.length ≤ 1000 := by have := answer_length hAn; have := HLI.out; omega
                    clear hAn hI hL5 dl dt HC HLk
                    generalize cs i = C9 at *
                    go_upto_region 21 with fail
                    go_cut [22, 23] (fun s22 s23 wx => ∃ (A3 : Option Addr) (C3 : Nat) (w6 : World), w6 = wx ∧ s22 = .slice A3 ps.length C3 ∧ s23 = .int .i64 code ∧ IntsIn w6 A2 ps ∧ IntsIn w6 A3 ps ∧ LState w w6 LB TB ads ls cs ts)
                    case first => as_aux_lemma =>
                      go_region_held3 (fun w' => w'.cell? ⟨LB, i, none⟩ = some (.slice A L.length C9) ∧ w'.cell? ⟨TB, k, none⟩ = some (.int .i64 t)) (first | exact ⟨dl5, dt5⟩ | exact E1.out)
                        (first | (go_at_call 12; refine Calls.mono (refs_every t L A C9 _ code ps HAN.out HC5.out (by have := HLI.out; omega)) ?_; rintro e w1 ⟨A3, C3, rfl, hI, hk1⟩; have HI6 := Lib.hid hI; have HK1 := Lib.hid (((Keeps.refl [] w5).drew).trans hk1); have E1 := Lib.hid (And.intro (HK1.out.cell dl5 (by simp)) (HK1.out.cell dt5 (by simp))); clear hI hk1))
                      all_goals
                        go_wp2
                        go_meet
                        exact ⟨A3, C3, _, rfl, rfl, rfl, HI5.out.keep HK1.out (by simp), HI6.out, HL5.out.keep HK1.out⟩
                    case rest =>
                      obtain ⟨A3, C3, w6, rfl, rfl, rfl, hIa, hIb, hL6⟩ := hcut
                      have HIa := Lib.hid hIa
                      have HIb := Lib.hid hIb
                      have HL6 := Lib.hid hL6
                      clear hIa hIb hL6 dl5 dt5 HC5 HI5 HL5
                      have hcc : (code != code) = false := by simp
                      go_wp2_with fail
                      refine (same_any A2 A3 C2 C3 ps ps w6 HIa.out HIb.out (by omega) (by omega)).mono ?_
                      rintro e w' ⟨rfl, nq, rfl⟩
                      have hd : decide (ps = ps) = true := by simp
                      rw [hd]
                      clear hd
                      go_wp2
                      go_roundw
                      case rel => exact ⟨k + 1, by omega, by go_num, HL6.out.keep ((Keeps.refl [] w6).drewN nq)⟩
                      case measure => simp [intOf]; omega
                · obtain rfl : k = 3 := by omega
                  have HL3 := Lib.hid hL
                  clear hL HLr
                  go_wp2
                  go_roundw
                  case rel => exact ⟨i + 1, by omega, by go_num, HL3.out⟩
                  case measure => simp [intOf]; omega
            · obtain rfl : i = 6 := by omega
              go_wp2_with fail
              refine (lives_any _).mono ?_
              rintro e w2 ⟨rfl, hk2⟩
              have HKE := Lib.hid (HLr.out.kp.trans hk2)
              clear hk2
              go_wp2
              go_ret
              exact ⟨rfl, HKE.out⟩

end Go.Proofs.Ytdpmkbiibmjbfaa
