/- The walk of RulesBytes, given that its examples hold. Conditions: the slices lie in memory. -/
import Derived.Test.YtgdmkddegcecaaaGreatTake
import Derived.Test.YtgdmkddegcecaaaGreatPlain
import Derived.Test.YtgdmkddegcecaaaGreatFew
import Derived.Test.YtgdmkddegcecaaaGreatAppend
import Derived.Deep.DeepCutAuto
import Derived.Deep.RegionHeld3
namespace Go.Proofs.YtgdmkddegcecaaaGreat
open Go.RowKit

theorem vint_by : ∀ (n : Nat), ∀ x ∈ vint n, 0 ≤ x ∧ x ≤ 255 := by
  intro n
  induction n using Nat.strongRecOn with
  | _ n ih =>
    intro x hx
    by_cases h : n < 128
    · rw [vint_small h] at hx; simp at hx; omega
    · rw [vint_big (by omega)] at hx
      rcases List.mem_cons.1 hx with rfl | hx
      · omega
      · exact ih (n / 128) (by omega) x hx
theorem encInts_by (l : List Int) : ∀ x ∈ encInts l, 0 ≤ x ∧ x ≤ 255 := by
  intro x hx
  unfold encInts at hx
  rcases List.mem_append.1 hx with hx | hx
  · exact vint_by _ x hx
  · obtain ⟨y, _, hy⟩ := List.mem_flatMap.1 hx
    exact vint_by _ x hy
theorem encSteps_by (rows : List SRow) : ∀ x ∈ encSteps rows, 0 ≤ x ∧ x ≤ 255 := by
  intro x hx
  unfold encSteps at hx
  rcases List.mem_append.1 hx with hx | hx
  · exact vint_by _ x hx
  · obtain ⟨r, _, hr⟩ := List.mem_flatMap.1 hx
    unfold encStep at hr
    rcases List.mem_append.1 hr with hr | hr
    · exact vint_by _ x hr
    · exact encInts_by _ x hr
theorem encSteps_len (rows : List SRow) (h8 : rows.length ≤ 8) (h : ∀ r ∈ rows, I64 r.rule ∧ r.path.length ≤ 1000 ∧ ∀ x ∈ r.path, I64 x) : 0 < (encSteps rows).length ∧ (encSteps rows).length ≤ 100000 := by
  have h1 := encs_len rows h
  have h2 := vsint_len (x := rows.length) ⟨by omega, by omega⟩
  have h3 := vsint_pos rows.length
  unfold encSteps
  rw [List.length_append]
  omega

/-- The three tries, at a world. -/
structure TState (w wl : World) (T : Nat) (ads : Nat → Option Addr) (ls : Nat → List Int) (cs : Nat → Nat) : Prop where
  l : ∀ i, i < 3 → wl.cell? ⟨T, i, none⟩ = some (.slice (ads i) (ls i).length (cs i))
  c : ∀ i, i < 3 → BytesIn wl (ads i) (ls i)
  kp : Keeps [] w wl
theorem TState.keep {w wl w' : World} {T : Nat} {ads : Nat → Option Addr} {ls : Nat → List Int} {cs : Nat → Nat} (h : TState w wl T ads ls cs) (k : Keeps [] wl w') : TState w w' T ads ls cs :=
  ⟨fun i hi => k.cell (h.l i hi) (by simp), fun i hi => (h.c i hi).keep k (by simp), h.kp.trans k⟩
theorem bytes_of_sl {w : World} {a : Option Nat} {c : Nat} {bs : List Int} {n : Nat} (h : SliceAt w 5 1 a n c (bs.map (Value.int .u8))) : BytesIn w (a.map fun g => ⟨g, 0, none⟩) bs := fun h0 => by
  cases a with
  | none => exfalso; have := h.1; obtain ⟨_, h2, _⟩ := h; simp at this; omega
  | some g => exact ⟨g, 0, rfl, fun j hj => by rw [Nat.zero_add, SliceAt.cell h j (by simpa using hj)]; simp [hj]⟩

def Lives : Prop := ∀ w : World, Calls Tryz.prog 15 #[] w fun e w' => e = .returned (.bool true) ∧ Keeps [] w w'

set_option maxRecDepth 100000 in
set_option maxHeartbeats 8000000 in
theorem bytes_walk (hlv : Lives) (a0 a1 : Option Addr) (c0 c1 : Nat) (xs rs : List Int) (at' x' : Int) (w : World) (hx : IntsIn w a0 xs) (hxb : ∀ x ∈ xs, I64 x) (hxl : xs.length ≤ c0) (hc0 : c0 ≤ 9223372036854775807)
    (hr : BytesIn w a1 rs) (hrb : ∀ x ∈ rs, 0 ≤ x ∧ x ≤ 255) (hrl : rs.length ≤ c1) (hc1 : c1 ≤ 9223372036854775807) (hat : I64 at') (hx' : 0 ≤ x' ∧ x' ≤ 255) :
    Calls Tryz.prog 3 #[.slice a0 xs.length c0, .slice a1 rs.length c1, .int .i64 at', .int .u8 x'] w fun e w' => e = .returned (.bool true) ∧ Keeps [] w w' := by
  have HLV := Lib.hid hlv
  have HX := Lib.hid hx
  have HXB := Lib.hid hxb
  have HR := Lib.hid hr
  have HRB := Lib.hid hrb
  obtain ⟨i0, hi, hz0, hz1, hz2⟩ := info_parts infoMS
  have Hi := Lib.hid hi
  have Hz0 := Lib.hid hz0
  have Hz1 := Lib.hid hz1
  have Hz2 := Lib.hid hz2
  clear hlv hx hxb hr hrb hi hz0 hz1 hz2
  go_enter Tryz.func3, Tryz.ntmps3
  go_wp2
  go_loopw [9, 10] (fun v i wr => ∃ (k : Nat) (a : Option Nat) (c : Nat) (rows : List SRow), k ≤ min 8 xs.length ∧ i = .int .i64 k ∧ v = sv a k c ∧ rows.length = k ∧ SliceAt wr 27 2 a k c (flatS rows) ∧
    (∀ r ∈ rows, (I64 r.rule ∧ r.path.length ≤ 3 ∧ ∀ x ∈ r.path, I64 x) ∧ IntsIn wr r.pa r.path ∧ ∀ bb, r.pa = some bb → a ≠ some bb.block ∧ bb.block < wr.heap.size) ∧ Keeps [] w wr ∧ (∀ z, a = some z → w.heap.size ≤ z)) (fun _ i _ => 8 - (intOf i).toNat)
  case atStart => exact ⟨0, none, 0, [], Nat.zero_le _, rfl, rfl, rfl, SliceAt.nil _ _ _, by simp, Keeps.refl _ _, by simp⟩
  case round =>
    obtain ⟨k, a, c, rows, hk, rfl, rfl, hrl2, hsl, hrw, hkp, ha⟩ := hrel
    have HSL := Lib.hid hsl
    have HRW := Lib.hid hrw
    have HK := Lib.hid hkp
    have HA := Lib.hid ha
    have HRL := Lib.hid hrl2
    clear hsl hrw hkp ha hrl2
    by_cases hlt : k < min 8 xs.length
    · obtain ⟨b, off, rfl, hcx⟩ := HX.out (by omega)
      have hkx : k < xs.length := by omega
      have hk8 : (k : Int) < 8 := by omega
      have dx := HK.out.cell (hcx k hkx) (by simp)
      have dxw := hcx k hkx
      have hxk := HXB.out (xs.getD k 0) (getD_mem hkx)
      have hin := HX.out
      have HIN := Lib.hid (IntsIn.keep hin HK.out (by simp))
      obtain ⟨x, hxe⟩ : ∃ x, x = xs.getD k 0 := ⟨_, rfl⟩
      rw [← hxe] at dx hxk dxw
      have HDXW := Lib.hid dxw
      have HXK := Lib.hid hxk
      clear hcx hin hxe hxk dxw
      obtain ⟨q, hq⟩ : ∃ q : Nat, q = k % 4 := ⟨_, rfl⟩
      have hm1 : (k : Int) % 4 = (q : Int) := by omega
      have hm2 : (k : Int).tmod 4 = (q : Int) := by rw [Int.tmod_eq_emod_of_nonneg (by omega)]; omega
      have hq3 : q ≤ 3 := by omega
      clear hq
      go_wp2
      go_region_held3 (fun w' => w'.cell? ⟨b, off + k, none⟩ = some (.int .i64 x)) (first | exact dx | exact E1.out | exact ((Keeps.refl [] _).alloc _).cell E1.out (by simp) | exact E3.out)
        (first
          | (go_at_call 4; refine Calls.mono (ints_any (some ⟨b, off, none⟩) c0 q xs _ HIN.out (by omega) (by omega) hxl) ?_; rintro e w2 ⟨pa, pc, rfl, hps, hk2, hpz⟩; simp only [sv]; have HPS := Lib.hid hps; have HK2 := Lib.hid (((Keeps.refl [] wr).drew).trans hk2); have HPZ := Lib.hid hpz; have E1 := Lib.hid (HK2.out.cell dx (by simp)); clear hps hk2 hpz)
          | (refine stepd_append_sl rfl (.tmp 31) (.tmp 41) 24 rfl 27 i0 _ 2 32 Tryz.underlying24 Hi.out Hz0.out Hz1.out Hz2.out rfl (by decide) a k c _ rfl (HSL.out.keep (HK2.out.alloc _) (by simp)) ⟨w2.heap.size, 0, none⟩ 1 1 [.int .i64 x, .slice (pa.map fun g => ⟨g, 0, none⟩) (min q xs.length) pc] rfl rfl (news_row' w2 [.int .i64 x, .slice (pa.map fun g => ⟨g, 0, none⟩) (min q xs.length) pc] 27 _ rfl) (by intro u hu; simp at hu; rcases hu with rfl | rfl <;> rfl) (by decide) (by omega) (by omega) ?_; intro g3 c3 w3 hsl3 hk3 hg3; have HK3 := Lib.hid (show Keeps [] w w3 from ((HK.out.trans HK2.out).alloc _).after hk3 (by intro y hy; simp at hy; exact .inr (HA.out y hy))); have HSL3 := Lib.hid hsl3; have HKA3 := Lib.hid hk3; have HG3 := Lib.hid hg3; have E3 := Lib.hid (HK3.out.cell HDXW.out (by simp)); clear hsl3 hk3 hg3))
      have hs2 := HK2.out.size
      have hs3 := HKA3.out.size
      have hal : (w2.alloc (.cells #[.int .i64 x, .slice (pa.map fun g => ⟨g, 0, none⟩) (min q xs.length) pc] 27)).heap.size = w2.heap.size + 1 := by simp
      rw [hal] at hs3
      have hg3' : a = some g3 ∨ w2.heap.size + 1 ≤ g3 := by have h := HG3.out; rw [hal] at h; exact h
      have hrows : ∀ r ∈ rows ++ [⟨x, pa.map fun g => ⟨g, 0, none⟩, xs.take q, pc⟩], (I64 r.rule ∧ r.path.length ≤ 3 ∧ ∀ y ∈ r.path, I64 y) ∧ IntsIn w3 r.pa r.path ∧ ∀ bb, r.pa = some bb → some g3 ≠ some bb.block ∧ bb.block < w3.heap.size := by
        have kw : Keeps a.toList wr w3 := ((HK2.out.alloc _).mono (by simp)).trans HKA3.out
        intro r hr
        rcases List.mem_append.1 hr with hr | hr
        · obtain ⟨h1, h2, h3⟩ := HRW.out r hr
          refine ⟨h1, h2.keep kw (fun bb hbb h => (h3 bb hbb).1 (by simpa using h)), fun bb hbb => ?_⟩
          obtain ⟨h4, h5⟩ := h3 bb hbb
          refine ⟨?_, by omega⟩
          intro h
          rcases hg3' with h6 | h6
          · exact h4 (by rw [h6, h])
          · simp at h; omega
        · simp at hr
          subst hr
          have h7 : ∀ bb : Addr, (pa.map fun g => (⟨g, 0, none⟩ : Addr)) = some bb → wr.heap.size ≤ bb.block ∧ bb.block < w2.heap.size := by
            intro bb hbb
            cases pa with
            | none => simp at hbb
            | some y => simp at hbb; subst hbb; exact ⟨HPZ.out y rfl, HPS.out.lt⟩
          have haw : ∀ y, a = some y → y < wr.heap.size := fun y hy => by subst hy; exact HSL.out.lt
          refine ⟨⟨HXK.out, by simp only [List.length_take]; omega, fun y hy => HXB.out y (List.mem_of_mem_take hy)⟩, ?_, fun bb hbb => ?_⟩
          · have h1 := HPS.out.to_in
            have h2 := IntsIn.keep h1 ((Keeps.refl [] w2).alloc (.cells #[.int .i64 x, .slice (pa.map fun g => ⟨g, 0, none⟩) (min q xs.length) pc] 27)) (by simp)
            exact h2.keep HKA3.out (fun bb hbb h => by have h8 := h7 bb hbb; have h9 := haw bb.block (by simpa using h); omega)
          · have h8 := h7 bb hbb
            refine ⟨?_, by omega⟩
            intro h
            simp at h
            rcases hg3' with h6 | h6
            · have := haw g3 h6; omega
            · omega
      have hg3w : w.heap.size ≤ g3 := by
        rcases hg3' with h6 | h6
        · exact HA.out g3 h6
        · have := HK.out.size; omega
      have hlen : (xs.take q).length = min q xs.length := List.length_take
      have HROWS := Lib.hid hrows
      have HLEN := Lib.hid hlen
      clear hrows hlen hg3' hal hs2 hs3 HKA3 HG3 HPS HK2 HPZ
      go_wp2
      go_roundw
      case rel =>
        refine ⟨k + 1, some g3, c3, rows ++ [⟨x, pa.map fun g => ⟨g, 0, none⟩, xs.take q, pc⟩], by omega, by go_num, rfl, by rw [List.length_append, HRL.out]; rfl, ?_, HROWS.out, HK3.out, by intro z hz; simp at hz; subst hz; exact hg3w⟩
        rw [flatS_append]
        have h1 := HSL3.out
        rw [← HLEN.out] at h1
        exact h1
      case measure => simp [intOf]; omega
    · have hk9 : k ≤ 8 := by omega
      have hcase : ((k : Int) < (xs.length : Int) ∧ ¬ (k : Int) < 8) ∨ ¬ (k : Int) < (xs.length : Int) := by omega
      have HCASE := Lib.hid hcase
      clear hlt hcase hk
      go_upto_region 3 with fail
      go_cut [28] (fun s28 wx => s28 = .bool false ∧ wr = wx)
      case first => as_aux_lemma =>
        rcases HCASE.out with ⟨h1, h2⟩ | h1
        all_goals
          go_wp2
          go_meet
          exact ⟨rfl, rfl⟩
      case rest =>
        obtain ⟨rfl, rfl⟩ := hcut
        clear HCASE
        have hS : StepsAt wr 27 a c rows := ⟨by rw [HRL.out]; exact HSL.out, fun r hr => (HRW.out r hr).2.1⟩
        have hOK : RowsOk rows := ⟨by rw [HRL.out]; omega, fun r hr => by obtain ⟨⟨h1, h2, h3⟩, _⟩ := HRW.out r hr; exact ⟨h1, by omega, h3⟩⟩
        have hPOK : ∀ p ∈ rows.map SRow.pair, PairOk 1000000 p := by
          intro p hp
          obtain ⟨r, hr, rfl⟩ := List.mem_map.1 hp
          obtain ⟨⟨h1, h2, h3⟩, _⟩ := HRW.out r hr
          exact ⟨h1, by show r.path.length ≤ 1000000; omega, h3⟩
        have hdec := decF_encL (rows.map SRow.pair) (by rw [List.length_map, HRL.out]; omega) hPOK
        rw [← encL_rows] at hdec
        have HROWS3 := Lib.hid (show ∀ r ∈ rows, I64 r.rule ∧ r.path.length ≤ 3 ∧ ∀ x ∈ r.path, I64 x from fun r hr => (HRW.out r hr).1)
        have HS := Lib.hid hS
        have HOK := Lib.hid hOK
        have HDEC := Lib.hid hdec
        have hrl3 := HRL.out
        have HRL3 := Lib.hid hrl3
        rw [← hrl3]
        clear hS hOK hPOK hdec hrl3 HSL HRW
        go_wp2_with fail
        refine Calls.mono (steps_any a c rows wr HS.out (by rw [HRL3.out]; omega)) ?_
        rintro e w2 ⟨a2, c2, rfl, hS2, hk2⟩
        have HS2 := Lib.hid hS2
        have HK2 := Lib.hid (HK.out.trans hk2)
        have HSa := Lib.hid (HS.out.keep0 hk2)
        clear hS2 hk2
        go_wp2_with fail
        refine Calls.mono (encode_any a2 c2 rows w2 HS2.out HOK.out) ?_
        rintro e w3 ⟨g, cg, rfl, hB3, hk3, hg3⟩
        obtain ⟨es, hes⟩ : ∃ es, es = encSteps rows := ⟨_, rfl⟩
        rw [← hes] at hB3 ⊢
        have HES := Lib.hid hes
        have HB3 := Lib.hid hB3
        have HK3 := Lib.hid (HK2.out.trans hk3)
        have HS3 := Lib.hid (HSa.out.keep0 hk3)
        clear hB3 hk3 hes HS2 HSa HS
        have hby := encSteps_by rows
        obtain ⟨hep, hel⟩ := encSteps_len rows (by rw [HRL3.out]; exact hk9) HOK.out.2
        rw [← HES.out] at hby hep hel
        have HBY := Lib.hid hby
        have HD := Lib.hid (decode_any (some ⟨g, 0, none⟩) cg es w3 HB3.out.to_in hby (by omega))
        have hgw3 : g < w3.heap.size := HB3.out.lt
        clear hby
        go_wp2_with fail
        refine Calls.mono HD.out ?_
        intro e w4 hor
        have hde : decF es = some (rows.map SRow.pair) := by rw [HES.out]; exact HDEC.out
        rcases hor with ⟨h1, _, _⟩ | ⟨ad, cd, rowd, hd1, rfl, hSd, hk4⟩
        · rw [hde] at h1; cases h1
        · rw [hde] at hd1
          have hpe := Option.some.inj hd1
          have hdl : rowd.length = rows.length := by have := congrArg List.length hpe; rw [List.length_map, List.length_map] at this; exact this.symm
          rw [hdl]
          have HPE := Lib.hid hpe
          have HDL := Lib.hid hdl
          have HSd := Lib.hid hSd
          have HB4 := Lib.hid (SliceAt.keep HB3.out hk4 (by simp))
          have HK4 := Lib.hid (HK3.out.trans hk4)
          have HS4 := Lib.hid (HS3.out.keep0 hk4)
          clear hd1 hpe hdl hSd hk4 hde HD HB3 HS3
          have HRD := Lib.hid (read_any (some ⟨g, 0, none⟩) cg es w4 (BytesAt.to_in HB4.out) HBY.out (by omega))
          go_wp2_with fail
          refine Calls.mono HRD.out ?_
          rintro e w5 ⟨br, gr, cr, rfl, hR5, hk5, hbr, hgr⟩
          have HR5 := Lib.hid hR5
          have HB5 := Lib.hid (SliceAt.keep HB4.out hk5 (by simp))
          have HK5 := Lib.hid (HK4.out.trans hk5)
          have HS5 := Lib.hid (HS4.out.keep0 hk5)
          have HSd5 := Lib.hid (HSd.out.keep0 hk5)
          have HQ5 := Lib.hid hk5
          clear hR5 hk5 HRD
          have hrr : (rows.length != rows.length) = false := by simp
          have hrr2 : ((rows.length : Int) != (rows.length : Int)) = false := by simp
          have hee : ((es.length : Int) == 0) = false := beq_false_of_ne (by omega)
          simp only [sv]
          go_wp2_with fail
          refine Calls.mono (rencode_any a c rows w5 HS5.out HOK.out) ?_
          rintro e w6 ⟨g6, c6, rfl, hB6, hk6, hg6⟩
          rw [← HES.out] at hB6 ⊢
          have HB6a := Lib.hid (SliceAt.keep HB5.out hk6 (by simp))
          have HB6 := Lib.hid hB6
          have HR6 := Lib.hid (HR5.out.keep hk6 (by simp) (by simp))
          have HK6 := Lib.hid (HK5.out.trans hk6)
          have HS6 := Lib.hid (HS5.out.keep0 hk6)
          have HSd6 := Lib.hid (HSd5.out.keep0 hk6)
          have HQ6 := Lib.hid (HQ5.out.trans hk6)
          clear hB6 hk6 HB5 HR5 HS5 HSd5
          go_wp2_with fail
          refine Calls.mono (sameb_any (some ⟨g, 0, none⟩) (some ⟨g6, 0, none⟩) cg c6 es es w6 (BytesAt.to_in HB6a.out) (BytesAt.to_in HB6.out) (by omega) (by omega)) ?_
          rintro e w7 ⟨rfl, nq, rfl⟩
          have hde : decide (es = es) = true := by simp
          rw [hde]
          have hrd : unzig (rdE es 0 0).1 = (rows.length : Int) := by
            have h0 : es.drop 0 = vint (Lib.zigzag rows.length) ++ rows.flatMap encStep := by rw [HES.out]; rfl
            rw [rdE_put es 0 _ _ h0 (Lib.zigzag_lt (by omega) (by have := HRL3.out; omega)), unzig_zig]
          have HRI := Lib.hid (rdint_any br gr cr es 0 0 (w6.drewN nq) (HR6.out.drewN nq))
          rw [hrd] at HRI
          have HB7 := Lib.hid (SliceAt.drewN HB6a.out nq)
          have HK7 := Lib.hid (HK6.out.drewN nq)
          have HS7 := Lib.hid (HS6.out.keep0 ((Keeps.refl [] w6).drewN nq))
          have HSd7 := Lib.hid (HSd6.out.keep0 ((Keeps.refl [] w6).drewN nq))
          have HQ7 := Lib.hid (HQ6.out.drewN nq)
          generalize w6.drewN nq = W7 at *
          clear hde hrd HB6 HB6a HK6 HS6 HSd6 HR6
          go_wp2_with fail
          refine Calls.mono HRI.out ?_
          rintro e w8 ⟨rfl, _, hk8⟩
          have hgbr : w.heap.size ≤ br := by have := HK4.out.size; omega
          have HK8 := Lib.hid (HK7.out.after hk8 (by intro y hy; simp at hy; subst hy; exact .inr hgbr))
          have hQ8 : Keeps [] w4 w8 := HQ7.out.after hk8 (by intro y hy; simp at hy; subst hy; exact .inr hbr)
          have HB8 := Lib.hid (SliceAt.keep HB4.out hQ8 (by simp))
          have HS8 := Lib.hid (HS4.out.keep0 hQ8)
          have HSd8 := Lib.hid (HSd.out.keep0 hQ8)
          clear hk8 hQ8 HRI HB7 HK7 HS7 HSd7 HB4 HS4 HSd HQ5 HQ6 HQ7
          go_wp2
          go_loopw [15] (fun i wl => ∃ k : Nat, k ≤ rows.length ∧ i = .int .i64 k ∧ BytesAt wl g cg es ∧ StepsAt wl 27 a c rows ∧ StepsAt wl 39 ad cd rowd ∧ Keeps [] w wl) (fun i _ => rows.length - (intOf i).toNat)
          case atStart => exact ⟨0, Nat.zero_le _, rfl, HB8.out, HS8.out, HSd8.out, HK8.out⟩
          case round =>
            obtain ⟨i, hi, rfl, hBl, hSl, hSdl, hKl⟩ := hrel
            by_cases hir : i < rows.length
            · have hird : i < rowd.length := by rw [HDL.out]; exact hir
              have hi8 : i < 8 := by have := HRL3.out; omega
              cases a with
              | none => exfalso; have h1 := hSl.sl.2; have h2 : rows.length = 0 := h1.1; omega
              | some ga =>
              cases ad with
              | none => exfalso; have h1 := hSdl.sl.2; have h2 : rowd.length = 0 := h1.1; omega
              | some gd =>
              simp only [Option.map_some]
              obtain ⟨s1, s2⟩ := hSl.cells i hir
              obtain ⟨t1, t2⟩ := hSdl.cells i hird
              have i1 := hSl.ints rows[i] (List.getElem_mem hir)
              have i2 := hSdl.ints rowd[i] (List.getElem_mem hird)
              have hp : rowd[i].pair = rows[i].pair := by
                have h1 : (rowd.map SRow.pair)[i]'(by simpa using hird) = (rows.map SRow.pair)[i]'(by simpa using hir) := by
                  simp only [HPE.out]
                simpa using h1
              have hlp := (HOK.out.2 rows[i] (List.getElem_mem hir)).2.1
              generalize rows[i] = r2 at *
              generalize rowd[i] = r1 at *
              obtain ⟨x1, pa1, p1, pc1⟩ := r1
              obtain ⟨x2, pa2, p2, pc2⟩ := r2
              obtain ⟨rfl, rfl⟩ : x1 = x2 ∧ p1 = p2 := by simpa [SRow.pair] using hp
              simp only at s1 s2 t1 t2 i1 i2 hlp
              have hxx : (x1 != x1) = false := by simp
              have hdp : decide (p1 = p1) = true := by simp
              have HBl := Lib.hid hBl
              have HSl := Lib.hid hSl
              have HSdl := Lib.hid hSdl
              have HKl := Lib.hid hKl
              have HI1 := Lib.hid i1
              have HI2 := Lib.hid i2
              have hsm := fun n => same_any pa1 pa2 pc1 pc2 p1 p1 (wr.drewN n) (HI2.out.drewN n) (HI1.out.drewN n) (by omega) (by omega)
              rw [hdp] at hsm
              have HSM := Lib.hid hsm
              clear hBl hSl hSdl hKl i1 i2 hp hdp hsm HB8 HS8 HSd8 HK8
              go_wp2
              go_quiet ((go_at_call 12; exact Calls.quiet_of (HSM.out _)))
              go_wp2
              go_roundw
              case rel => exact ⟨i + 1, by omega, by go_num, SliceAt.drewN HBl.out _, HSl.out.keep0 ((Keeps.refl [] wr).drewN _), HSdl.out.keep0 ((Keeps.refl [] wr).drewN _), HKl.out.drewN _⟩
              case measure => simp [intOf]; omega
            · obtain rfl : i = rows.length := by omega
              have HB9 := Lib.hid hBl
              have HS9 := Lib.hid hSl
              have HSd9 := Lib.hid hSdl
              have HK9 := Lib.hid hKl
              clear hBl hSl hSdl hKl HB8 HS8 HSd8 HK8
              have hcg : es.length ≤ cg := by obtain ⟨_, cur, _, h1, _⟩ := HB9.out; exact h1
              have hfe : es.take es.length = es := List.take_of_length_le (Nat.le_refl _)
              have hfw := few_any (some ⟨g, 0, none⟩) cg es.length es wr (BytesAt.to_in HB9.out) (by omega) (by omega) hcg
              rw [hfe] at hfw
              have HFW := Lib.hid hfw
              clear hfe hfw
              go_wp2_with fail
              refine Calls.mono HFW.out ?_
              rintro e w10 ⟨ax, cx, rfl, hsx, hk10, hax⟩
              cases ax with
              | none => exfalso; have h1 := hsx.2; have h2 : es.length = 0 := h1.1; omega
              | some gx =>
              have hgx := hax gx rfl
              have HSX := Lib.hid hsx
              have HB10 := Lib.hid (SliceAt.keep HB9.out hk10 (by simp))
              have HK10 := Lib.hid (HK9.out.trans hk10)
              have hxg : g ≠ gx := by have := HB9.out.lt; omega
              have hgxw : w.heap.size ≤ gx := by have := HK9.out.size; omega
              have f1 := hsx.fz
              clear hsx hk10 hax HFW HB9 HK9 HS9 HSd9
              simp only [sv, Option.map_some]
              obtain ⟨q0, q1⟩ := aroundF_bd at' es.length (by omega)
              have d1 : w10.cell? ⟨gx, (aroundF at' es.length).toNat, none⟩ = some (.int .u8 (es.getD (aroundF at' es.length).toNat 0)) := by
                have hj : (aroundF at' es.length).toNat < es.length := by omega
                rw [HSX.out.cell _ (by simpa using hj)]; simp [hj]
              have f2 := f1 (aroundF at' es.length).toNat
              clear f1
              go_wp2_with fail
              refine Calls.mono (around_any at' es.length _ (by omega) hat) ?_
              rintro e w' ⟨rfl, rfl⟩
              generalize aroundF at' es.length = q at *
              go_upto_region 18 with fail
              have HSX2 := Lib.hid (HSX.out.set q.toNat (.int .u8 x'))
              have HKX := Lib.hid (HK10.out.setCell (p := ⟨gx, q.toNat, none⟩) (.inr hgxw) (.int .u8 x'))
              have HBX := Lib.hid (SliceAt.keep HB10.out ((Keeps.refl [gx] w10).setCell (p := ⟨gx, q.toNat, none⟩) (.inl (by simp)) (.int .u8 x')) (by intro z hz; simp at hz; subst hz; simpa using hxg))
              generalize w10.setCell ⟨gx, q.toNat, none⟩ (.int .u8 x') = X at *
              have HRX := Lib.hid (BytesIn.keep HR.out HKX.out (by simp))
              clear d1 f2 HSX HB10 HK10
              obtain ⟨m, hm⟩ : ∃ m, es.length = m + 1 := ⟨es.length - 1, by omega⟩
              rw [hm] at hcg ⊢
              have HM := Lib.hid hm
              have hm1 : (m : Int) ≤ (cg : Int) := by omega
              have hm2 : (0 : Int) ≤ (m : Int) := by omega
              have hm3 : m ≤ 99999 := by omega
              clear hm hel hep q1
              have hm4 : ¬ cg = 0 := by omega
              have hw1 : IntKind.i64.wrap (m : Int) = (m : Int) := IntWalk.i64_in _ (by omega)
              have hw2 : IntKind.i64.wrap ((m : Int) + 1 - 1) = (m : Int) := by rw [IntWalk.i64_in _ (by omega)]; omega
              have hm5 : (if cg = 0 then some (⟨g, 0, none⟩ : Addr) else some (⟨g, 0, none⟩ : Addr)) = some ⟨g, 0, none⟩ := by split <;> rfl
              have hsl : ∀ W : World, (Instr.sliceAt 23 (.slice (some ⟨g, 0, none⟩) (m + 1) cg) none (some (.int .i64 m)) none).run Tryz.prog W = .ok (.slice (some ⟨g, 0, none⟩) m cg) W := by
                intro W
                simp [go_sem, hm1, hm2, hm4]
              go_region_held3 (fun _ => True) (exact trivial)
                (first
                  | (go_at_call 13; refine Calls.mono (few_any a1 c1 30 rs _ HRX.out (by omega) (by omega) hrl) ?_; rintro e wf ⟨af, cf, rfl, hsf, hkf, haf⟩; simp only [sv]; have HSF := Lib.hid hsf; have HKF := Lib.hid (((Keeps.refl [] X).drew).trans hkf); clear hsf hkf haf))
              have hl1 : (rs.take 30).length = min 30 rs.length := List.length_take
              have hl2 : (es.set q.toNat x').length = m + 1 := by rw [List.length_set]; exact HM.out
              have hl3 : (es.take m).length = m := by rw [List.length_take, HM.out]; omega
              have hY : TState w (wf.alloc (.cells #[.slice (af.map fun g => ⟨g, 0, none⟩) (min 30 rs.length) cf, .slice (some ⟨gx, 0, none⟩) (m + 1) cx, .slice (some ⟨g, 0, none⟩) m cg] 23)) wf.heap.size
                  (fun i => [af.map fun g => ⟨g, 0, none⟩, some ⟨gx, 0, none⟩, some ⟨g, 0, none⟩].getD i none) (fun i => [rs.take 30, es.set q.toNat x', es.take m].getD i []) (fun i => [cf, cx, cg].getD i 0) := by
                have kY : Keeps [] wf (wf.alloc (.cells #[.slice (af.map fun g => ⟨g, 0, none⟩) (min 30 rs.length) cf, .slice (some ⟨gx, 0, none⟩) (m + 1) cx, .slice (some ⟨g, 0, none⟩) m cg] 23)) := (Keeps.refl [] wf).alloc _
                have hnew := heap_alloc_new wf (.cells #[.slice (af.map fun g => ⟨g, 0, none⟩) (min 30 rs.length) cf, .slice (some ⟨gx, 0, none⟩) (m + 1) cx, .slice (some ⟨g, 0, none⟩) m cg] 23)
                refine ⟨fun i hi => ?_, fun i hi => ?_, (HKX.out.trans HKF.out).alloc _⟩
                · have hc9 : ∀ v, #[Value.slice (af.map fun g => ⟨g, 0, none⟩) (min 30 rs.length) cf, .slice (some ⟨gx, 0, none⟩) (m + 1) cx, .slice (some ⟨g, 0, none⟩) m cg][i]? = some v → (wf.alloc (.cells #[.slice (af.map fun g => ⟨g, 0, none⟩) (min 30 rs.length) cf, .slice (some ⟨gx, 0, none⟩) (m + 1) cx, .slice (some ⟨g, 0, none⟩) m cg] 23)).cell? ⟨wf.heap.size, i, none⟩ = some v := fun v hv => by rw [World.cell?, hnew]; exact hv
                  apply hc9
                  obtain rfl | rfl | rfl : i = 0 ∨ i = 1 ∨ i = 2 := by omega
                  · show _ = some (Value.slice _ (rs.take 30).length _); rw [hl1]; rfl
                  · show _ = some (Value.slice _ (es.set q.toNat x').length _); rw [hl2]; rfl
                  · show _ = some (Value.slice _ (es.take m).length _); rw [hl3]; rfl
                · obtain rfl | rfl | rfl : i = 0 ∨ i = 1 ∨ i = 2 := by omega
                  · exact (bytes_of_sl HSF.out).keep kY (by simp)
                  · have h1 := HSX2.out
                    rw [← List.map_set] at h1
                    exact ((bytes_of_sl h1).keep HKF.out (by simp)).keep kY (by simp)
                  · exact (((bytes_of_sl HBX.out).take m).keep HKF.out (by simp)).keep kY (by simp)
              have hel2 : es.length ≤ 410 := by
                rw [HES.out]
                exact encSteps_len3 rows (by rw [HRL3.out]; exact hk9) HROWS3.out
              have hlen3 : ∀ i, i < 3 → ((fun i => [rs.take 30, es.set q.toNat x', es.take m].getD i []) i : List Int).length ≤ 1000 := fun i hi => by
                obtain rfl | rfl | rfl : i = 0 ∨ i = 1 ∨ i = 2 := by omega
                · show (rs.take 30).length ≤ 1000; rw [hl1]; omega
                · show (es.set q.toNat x').length ≤ 1000; rw [List.length_set]; omega
                · show (es.take m).length ≤ 1000; rw [List.length_take]; omega
              have hby3 : ∀ i, i < 3 → ∀ y ∈ ((fun i => [rs.take 30, es.set q.toNat x', es.take m].getD i []) i : List Int), 0 ≤ y ∧ y ≤ 255 := fun i hi y hy => by
                obtain rfl | rfl | rfl : i = 0 ∨ i = 1 ∨ i = 2 := by omega
                · exact HRB.out y (List.mem_of_mem_take hy)
                · rcases List.mem_or_eq_of_mem_set hy with h | h
                  · exact HBY.out y h
                  · rw [h]; exact hx'
                · exact HBY.out y (List.mem_of_mem_take hy)
              generalize wf.alloc (.cells #[.slice (af.map fun g => ⟨g, 0, none⟩) (min 30 rs.length) cf, .slice (some ⟨gx, 0, none⟩) (m + 1) cx, .slice (some ⟨g, 0, none⟩) m cg] 23) = Y at *
              generalize (fun i => [rs.take 30, es.set q.toNat x', es.take m].getD i [] : Nat → List Int) = ls at *
              generalize (fun i => [af.map fun g => ⟨g, 0, none⟩, some ⟨gx, 0, none⟩, some ⟨g, 0, none⟩].getD i none : Nat → Option Addr) = ads at *
              generalize (fun i => [cf, cx, cg].getD i 0 : Nat → Nat) = cs at *
              obtain ⟨T, hT⟩ : ∃ T, T = wf.heap.size := ⟨_, rfl⟩
              rw [← hT] at hY ⊢
              have HY := Lib.hid hY
              have HL3 := Lib.hid hlen3
              have HY3 := Lib.hid hby3
              clear hT hY hlen3 hby3 hl1 hl2 hl3 hel2 hsl hm5 hw1 hw2
              go_wp2
              go_loopw [18, 19, 20] (fun s _ _ wl => ∃ i : Nat, i ≤ 3 ∧ s = .int .i64 i ∧ TState w wl T ads ls cs) (fun s _ _ _ => 3 - (intOf s).toNat)
              case atStart => exact ⟨0, Nat.zero_le _, rfl, HY.out⟩
              case round =>
                obtain ⟨i, hi, rfl, hTS⟩ := hrel
                by_cases hi3 : i < 3
                · have hi3' : (i : Int) < 3 := by omega
                  have dl := hTS.l i hi3
                  have hbi := hTS.c i hi3
                  have hln := HL3.out i hi3
                  have hbz := HY3.out i hi3
                  have HTS := Lib.hid hTS
                  obtain ⟨L, hLe⟩ : ∃ L, L = ls i := ⟨_, rfl⟩
                  obtain ⟨A, hAe⟩ : ∃ A, A = ads i := ⟨_, rfl⟩
                  obtain ⟨C, hCe⟩ : ∃ C, C = cs i := ⟨_, rfl⟩
                  rw [← hLe, ← hAe, ← hCe] at dl
                  rw [← hLe, ← hAe] at hbi
                  rw [← hLe] at hln hbz
                  have HLE := Lib.hid hLe
                  have HAE := Lib.hid hAe
                  have HCE := Lib.hid hCe
                  have HBZ := Lib.hid hbz
                  have HD := Lib.hid (decode_any A C L wr hbi hbz (by omega))
                  clear hTS hLe hAe hCe hbi hbz HY
                  go_wp2_with fail
                  refine Calls.mono HD.out ?_
                  intro e w9 hor
                  rcases hor with ⟨h1, rfl, hk9⟩ | ⟨ad2, cd2, rw2, hd1, rfl, hS2, hk9⟩
                  · have HT9 := Lib.hid (HTS.out.keep hk9)
                    clear h1 hk9 HD HTS dl
                    go_wp2
                    go_quiet (fail)
                    go_wp2
                    go_roundw
                    case rel => exact ⟨i + 1, by omega, by go_num, HT9.out.keep ((Keeps.refl [] w9).drewN _)⟩
                    case measure => simp [intOf]; omega
                  · obtain ⟨p1, p2, p3⟩ := decF_get L HBZ.out _ hd1
                    have HOK2 := Lib.hid (rowsOk_of hln rw2 p2 p3)
                    have HENC := Lib.hid (show encSteps rw2 = L by rw [encL_rows, ← p1])
                    have hT9 := HTS.out.keep hk9
                    have dl9 := hT9.l i hi3
                    have hb9 := hT9.c i hi3
                    rw [← HLE.out, ← HAE.out, ← HCE.out] at dl9
                    rw [← HLE.out, ← HAE.out] at hb9
                    have HT9 := Lib.hid hT9
                    have HB9' := Lib.hid hb9
                    have HS2' := Lib.hid hS2
                    clear p1 p2 p3 hT9 hb9 hS2 hd1 hk9 HD HTS dl
                    simp only [sv]
                    go_wp2
                    refine wp_region_held_drew (S := (fun w' => w'.cell? ⟨T, i, none⟩ = some (.slice A L.length C))) (by kernel_rfl) dl9 (fun hHeld => ?_)
                    refine take_on (i := 0) (v := ?_) rfl (by kernel_rfl) (by kernel_rfl) (by kernel_rfl) (fun _ _ _ h => h) (by rfl) (by assumption) ?_ ?_
                    rotate_left
                    · ((intro w hSw; (try dsimp only at hSw); go_simp <;> with_reducible rfl); done)
                    try simp only [Act.put, List.setIfInBounds_toArray, List.set_cons_zero, List.set_cons_succ]
                    refine take_on (i := 1) (v := ?_) rfl (by kernel_rfl) (by kernel_rfl) (by kernel_rfl) (fun _ _ _ h => h) (by rfl) (by assumption) ?_ ?_
                    rotate_left
                    · ((intro w hSw; (try dsimp only at hSw); go_simp <;> with_reducible rfl); done)
                    try simp only [Act.put, List.setIfInBounds_toArray, List.set_cons_zero, List.set_cons_succ]
                    refine take_on (i := 2) (v := ?_) rfl (by kernel_rfl) (by kernel_rfl) (by kernel_rfl) (fun _ _ _ h => h) (by rfl) (by assumption) ?_ ?_
                    rotate_left
                    · ((intro w hSw; (try dsimp only at hSw); go_simp <;> with_reducible rfl); done)
                    try simp only [Act.put, List.setIfInBounds_toArray, List.set_cons_zero, List.set_cons_succ]
                    refine take_off (i := 3) rfl (by kernel_rfl) (by kernel_rfl) (by kernel_rfl) (fun _ _ _ h => h) (by rfl) (by assumption) ?_
                    try simp only [Act.put, List.setIfInBounds_toArray, List.set_cons_zero, List.set_cons_succ]
                    refine take_off (i := 4) rfl (by kernel_rfl) (by kernel_rfl) (by kernel_rfl) (fun _ _ _ h => h) (by rfl) (by assumption) ?_
                    try simp only [Act.put, List.setIfInBounds_toArray, List.set_cons_zero, List.set_cons_succ]
                    refine take_off (i := 5) rfl (by kernel_rfl) (by kernel_rfl) (by kernel_rfl) (fun _ _ _ h => h) (by rfl) (by assumption) ?_
                    try simp only [Act.put, List.setIfInBounds_toArray, List.set_cons_zero, List.set_cons_succ]
                    refine take_off (i := 6) rfl (by kernel_rfl) (by kernel_rfl) (by kernel_rfl) (fun _ _ _ h => h) (by rfl) (by assumption) ?_
                    try simp only [Act.put, List.setIfInBounds_toArray, List.set_cons_zero, List.set_cons_succ]
                    refine take_off (i := 7) rfl (by kernel_rfl) (by kernel_rfl) (by kernel_rfl) (fun _ _ _ h => h) (by rfl) (by assumption) ?_
                    try simp only [Act.put, List.setIfInBounds_toArray, List.set_cons_zero, List.set_cons_succ]
                    refine take_off (i := 8) rfl (by kernel_rfl) (by kernel_rfl) (by kernel_rfl) (fun _ _ _ h => h) (by rfl) (by assumption) ?_
                    try simp only [Act.put, List.setIfInBounds_toArray, List.set_cons_zero, List.set_cons_succ]
                    refine take_off (i := 9) rfl (by kernel_rfl) (by kernel_rfl) (by kernel_rfl) (fun _ _ _ h => h) (by rfl) (by assumption) ?_
                    try simp only [Act.put, List.setIfInBounds_toArray, List.set_cons_zero, List.set_cons_succ]
                    refine take_on (i := 10) (v := ?_) rfl (by kernel_rfl) (by kernel_rfl) (by kernel_rfl) (fun _ _ _ h => h) (by rfl) (by assumption) ?_ ?_
                    rotate_left
                    · ((intro w hSw; (try dsimp only at hSw); go_simp <;> with_reducible rfl); done)
                    try simp only [Act.put, List.setIfInBounds_toArray, List.set_cons_zero, List.set_cons_succ]
                    refine take_on (i := 11) (v := ?_) rfl (by kernel_rfl) (by kernel_rfl) (by kernel_rfl) (fun _ _ _ h => h) (by rfl) (by assumption) ?_ ?_
                    rotate_left
                    · ((intro w hSw; (try dsimp only at hSw); go_simp <;> with_reducible rfl); done)
                    try simp only [Act.put, List.setIfInBounds_toArray, List.set_cons_zero, List.set_cons_succ]
                    refine take_on (i := 12) (v := ?_) rfl (by kernel_rfl) (by kernel_rfl) (by kernel_rfl) (fun _ _ _ h => h) (by rfl) (by assumption) ?_ ?_
                    rotate_left
                    · ((intro w hSw; (try dsimp only at hSw); go_simp <;> with_reducible rfl); done)
                    try simp only [Act.put, List.setIfInBounds_toArray, List.set_cons_zero, List.set_cons_succ]
                    refine take_on (i := 13) (v := ?_) rfl (by kernel_rfl) (by kernel_rfl) (by kernel_rfl) (fun _ _ _ h => h) (by rfl) (by assumption) ?_ ?_
                    rotate_left
                    · ((intro w hSw; (try dsimp only at hSw); go_simp <;> with_reducible rfl); done)
                    try simp only [Act.put, List.setIfInBounds_toArray, List.set_cons_zero, List.set_cons_succ]
                    refine take_on (i := 14) (v := ?_) rfl (by kernel_rfl) (by kernel_rfl) (by kernel_rfl) (fun _ _ _ h => h) (by rfl) (by assumption) ?_ ?_
                    rotate_left
                    · ((intro w hSw; (try dsimp only at hSw); go_simp <;> with_reducible rfl); done)
                    try simp only [Act.put, List.setIfInBounds_toArray, List.set_cons_zero, List.set_cons_succ]
                    refine take_on (i := 15) (v := ?_) rfl (by kernel_rfl) (by kernel_rfl) (by kernel_rfl) (fun _ _ _ h => h) (by rfl) (by assumption) ?_ ?_
                    rotate_left
                    · ((intro w hSw; (try dsimp only at hSw); go_simp <;> with_reducible rfl); done)
                    try simp only [Act.put, List.setIfInBounds_toArray, List.set_cons_zero, List.set_cons_succ]
                    refine take_on (i := 17) (v := ?_) rfl (by kernel_rfl) (by kernel_rfl) (by kernel_rfl) (fun _ _ _ h => h) (by rfl) (by assumption) ?_ ?_
                    rotate_left
                    · ((intro w hSw; (try dsimp only at hSw); go_simp <;> with_reducible rfl); done)
                    try simp only [Act.put, List.setIfInBounds_toArray, List.set_cons_zero, List.set_cons_succ]
                    refine take_on (i := 18) (v := ?_) rfl (by kernel_rfl) (by kernel_rfl) (by kernel_rfl) (fun _ _ _ h => h) (by rfl) (by assumption) ?_ ?_
                    rotate_left
                    · ((intro w hSw; (try dsimp only at hSw); go_simp <;> with_reducible rfl); done)
                    try simp only [Act.put, List.setIfInBounds_toArray, List.set_cons_zero, List.set_cons_succ]
                    refine take_on (i := 19) (v := ?_) rfl (by kernel_rfl) (by kernel_rfl) (by kernel_rfl) (fun _ _ _ h => h) (by rfl) (by assumption) ?_ ?_
                    rotate_left
                    · ((intro w hSw; (try dsimp only at hSw); go_simp <;> with_reducible rfl); done)
                    try simp only [Act.put, List.setIfInBounds_toArray, List.set_cons_zero, List.set_cons_succ]
                    refine take_on (i := 20) (v := ?_) rfl (by kernel_rfl) (by kernel_rfl) (by kernel_rfl) (fun _ _ _ h => h) (by rfl) (by assumption) ?_ ?_
                    rotate_left
                    · ((intro w hSw; (try dsimp only at hSw); go_simp <;> with_reducible rfl); done)
                    try simp only [Act.put, List.setIfInBounds_toArray, List.set_cons_zero, List.set_cons_succ]
                    refine branch_one (i := 16) rfl (by kernel_rfl) (by rfl) (fun K hK => ?_)
                    go_simp
                    go_at_call 5
                    refine Calls.mono (encode_any ad2 cd2 rw2 _ (HS2'.out.keep0 ((Keeps.refl [] w9).drew)) HOK2.out) ?_
                    rintro e w10 ⟨ge, ce, rfl, hBe, hke, hge⟩
                    rw [HENC.out] at hBe ⊢
                    have HBe := Lib.hid hBe
                    have HKe := Lib.hid (((Keeps.refl [] w9).drew).trans hke)
                    have E1 := Lib.hid (HKe.out.cell dl9 (by simp))
                    clear hBe hke hge
                    refine hK.out _ _ (E1.out) (fun hHeld => ?_)
                    clear hK K
                    try simp only [Act.put, List.setIfInBounds_toArray, List.set_cons_zero, List.set_cons_succ]
                    refine branch_one (i := 21) rfl (by kernel_rfl) (by rfl) (fun K hK => ?_)
                    go_simp
                    go_at_call 9
                    refine Calls.mono (sameb_any (some ⟨ge, 0, none⟩) A ce C L L _ (BytesAt.to_in HBe.out) (HB9'.out.keep HKe.out (by simp)) (by omega) (by omega)) ?_
                    rintro e w11 ⟨rfl, nq, rfl⟩
                    rw [show decide (L = L) = true by simp]
                    refine hK.out _ _ (E1.out) (fun hHeld => ?_)
                    clear hK K
                    try simp only [Act.put, List.setIfInBounds_toArray, List.set_cons_zero, List.set_cons_succ]
                    refine take_on (i := 22) (v := ?_) rfl (by kernel_rfl) (by kernel_rfl) (by kernel_rfl) (fun _ _ _ h => h) (by rfl) (by assumption) ?_ ?_
                    rotate_left
                    · ((intro w hSw; (try dsimp only at hSw); go_simp <;> with_reducible rfl); done)
                    try simp only [Act.put, List.setIfInBounds_toArray, List.set_cons_zero, List.set_cons_succ]
                    refine take_on (i := 23) (v := ?_) rfl (by kernel_rfl) (by kernel_rfl) (by kernel_rfl) (fun _ _ _ h => h) (by rfl) (by assumption) ?_ ?_
                    rotate_left
                    · ((intro w hSw; (try dsimp only at hSw); go_simp <;> with_reducible rfl); done)
                    try simp only [Act.put, List.setIfInBounds_toArray, List.set_cons_zero, List.set_cons_succ]
                    refine take_on (i := 24) (v := ?_) rfl (by kernel_rfl) (by kernel_rfl) (by kernel_rfl) (fun _ _ _ h => h) (by rfl) (by assumption) ?_ ?_
                    rotate_left
                    · ((intro w hSw; (try dsimp only at hSw); go_simp <;> with_reducible rfl); done)
                    try simp only [Act.put, List.setIfInBounds_toArray, List.set_cons_zero, List.set_cons_succ]
                    refine wpAnyH_done (by kernel_rfl) ?_ _
                    go_wp2
                    go_roundw
                    case rel => exact ⟨i + 1, by omega, by go_num, (HT9.out.keep HKe.out).keep ((Keeps.refl [] w10).drewN _)⟩
                    case measure => simp [intOf]; omega
                · obtain rfl : i = 3 := by omega
                  have HTS := Lib.hid hTS
                  clear hTS HY
                  go_wp2_with fail
                  refine Calls.mono (HLV.out wr) ?_
                  rintro e w12 ⟨rfl, hk12⟩
                  have HKE := Lib.hid (HTS.out.kp.trans hk12)
                  clear hk12
                  go_wp2
                  go_ret
                  exact ⟨rfl, HKE.out⟩

end Go.Proofs.YtgdmkddegcecaaaGreat
