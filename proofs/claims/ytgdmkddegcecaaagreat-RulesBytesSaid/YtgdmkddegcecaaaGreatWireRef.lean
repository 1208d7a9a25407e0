/- The reference model of wire: the bytes of numbers and of lists. Conditions: the lists lie in memory. -/
import Derived.Test.YtgdmkddegcecaaaGreatWire
namespace Go.Proofs.YtgdmkddegcecaaaGreat
open Go.RowKit

set_option maxRecDepth 100000 in
set_option maxHeartbeats 1000000 in
theorem ruint_any (n : Nat) (w : World) (hn : n < 18446744073709551616) :
    Calls Tryz.prog 33 #[.int .u64 n] w fun e w' =>
      ∃ g c', e = .returned (.slice (some ⟨g, 0, none⟩) (vint n).length c') ∧ SliceAt w' 5 1 (some g) (vint n).length c' ((vint n).map (Value.int .u8)) ∧ Keeps [] w w' ∧ w.heap.size ≤ g := by
  obtain ⟨i0, hi, hz0, hz1, hz2⟩ := info_parts infoU8
  have Hi := Lib.hid hi
  have Hz0 := Lib.hid hz0
  have Hz1 := Lib.hid hz1
  have Hz2 := Lib.hid hz2
  clear hi hz0 hz1 hz2
  have hvl := vint_len64 hn
  go_enter Tryz.func33, Tryz.ntmps33
  go_wp2
  go_loopw [0, 3] (fun s v wr => ∃ (m : Nat) (pre : List Int) (a : Option Nat) (c : Nat), s = .int .u64 m ∧ m < 18446744073709551616 ∧ v = sv a pre.length c ∧ pre ++ vint m = vint n ∧ SliceAt wr 5 1 a pre.length c (pre.map (Value.int .u8)) ∧ Keeps [] w wr ∧ (∀ g, a = some g → w.heap.size ≤ g)) (fun s _ _ => (intOf s).toNat)
  case atStart => exact ⟨n, [], none, 0, rfl, hn, rfl, rfl, SliceAt.nil _ _ _, Keeps.refl _ _, by simp⟩
  case round =>
    obtain ⟨m, pre, a, c, rfl, hm, rfl, hpre, hsl, hk, ha⟩ := hrel
    have hpl : pre.length + (vint m).length ≤ 10 := by rw [← List.length_append, hpre]; exact hvl
    have hvp := vint_pos m
    have HSL := Lib.hid hsl
    have HK := Lib.hid hk
    have HA := Lib.hid ha
    have HP := Lib.hid hpre
    clear hsl hk ha hpre
    have hfin : ∀ (o : Obj) (g : Nat) (w2 : World), Keeps a.toList (wr.alloc o) w2 → (a = some g ∨ wr.heap.size + 1 ≤ g) → Keeps [] w w2 ∧ w.heap.size ≤ g := by
      intro o g w2 hk hg
      refine ⟨(HK.out.alloc _).after hk (by intro x hx; simp at hx; exact .inr (HA.out x hx)), ?_⟩
      rcases hg with hg | hg
      · exact HA.out g hg
      · have := HK.out.size; omega
    have HF := Lib.hid hfin
    clear hfin
    by_cases h : 127 < m
    · have hi : (127 : Int) < (m : Int) := by omega
      obtain ⟨y, hy⟩ : ∃ y : Int, y = ((m % 128 + 128 : Nat) : Int) := ⟨_, rfl⟩
      have hbit : 128 + (m : Int) % 128 = y := by omega
      have hy1 : 0 ≤ y := by omega
      have hy2 : y ≤ 255 := by omega
      have HY := Lib.hid hy
      clear hy
      go_wp2_with (at_builtin; refine wpList_append_sl rfl (.tmp 6) (.tmp 11) 23 rfl 5 i0 _ 1 1 Tryz.underlying23 Hi.out Hz0.out Hz1.out Hz2.out rfl (by decide) a pre.length c _ rfl (HSL.out.alloc _) ⟨wr.heap.size, 0, none⟩ 1 1 [.int .u8 y] rfl rfl ?hnews ?hone (by decide) (by omega) (by omega) ?hk)
      case hnews => exact news_row' _ _ _ _ rfl
      case hone => intro u hu; simp at hu; subst hu; rfl
      case hk =>
        intro g c2 w2 hsl hk2 hg
        have hf := HF.out _ g w2 hk2 (by simpa using hg)
        have HSL2 := Lib.hid hsl
        have HF2 := Lib.hid hf
        clear hsl hk2 hg hf
        go_wp2
        go_roundw
        case rel =>
          refine ⟨m / 128, pre ++ [y], some g, c2, by go_num, by omega, ?_, ?_, ?_, HF2.out.1, by intro z hz; simp at hz; subst hz; exact HF2.out.2⟩
          · rw [List.length_append]; rfl
          · rw [List.append_assoc, ← HP.out, vint_big (n := m) (by omega), HY.out]; rfl
          · rw [List.length_append, List.map_append]; exact HSL2.out
        case measure => simp [intOf]; omega
    · have hi : ¬ (127 : Int) < (m : Int) := by omega
      go_wp2_with (at_builtin; refine wpList_append_sl rfl (.tmp 15) (.tmp 18) 23 rfl 5 i0 _ 1 1 Tryz.underlying23 Hi.out Hz0.out Hz1.out Hz2.out rfl (by decide) a pre.length c _ rfl (HSL.out.alloc _) ⟨wr.heap.size, 0, none⟩ 1 1 [.int .u8 m] rfl rfl ?hnews ?hone (by decide) (by omega) (by omega) ?hk)
      case hone => rfl
      case hk =>
        intro g c2 w2 hsl hk2 hg
        have hf := HF.out _ g w2 hk2 (by simpa using hg)
        have HSL2 := Lib.hid hsl
        have HF2 := Lib.hid hf
        clear hsl hk2 hg hf
        go_wp2
        go_ret
        have h2 : pre ++ [(m : Int)] = vint n := by rw [← vint_small (by omega : m < 128), HP.out]
        refine ⟨g, c2, ?_, ?_, HF2.out.1, HF2.out.2⟩
        · rw [← h2, List.length_append]; rfl
        · rw [← h2, List.length_append, List.map_append]; exact HSL2.out

set_option maxHeartbeats 400000 in
theorem rzig_any (x : Int) (w : World) (hx : I64 x) : Calls Tryz.prog 34 #[.int .i64 x] w fun e w' => e = .returned (.int .u64 (Lib.zigzag x)) ∧ w = w' := by
  obtain ⟨x0, x1⟩ := hx
  by_cases h0 : x < 0
  · have hz : ((Lib.zigzag x : Nat) : Int) = 2 * (-(x + 1)) + 1 := by unfold Lib.zigzag; rw [if_neg (by omega)]; omega
    have HZ := Lib.hid hz
    clear hz
    go_enter Tryz.func34, Tryz.ntmps34
    go_wp2
    go_ret
    exact ⟨by rw [HZ.out]; go_num, rfl⟩
  · have hz : ((Lib.zigzag x : Nat) : Int) = 2 * x := by unfold Lib.zigzag; rw [if_pos (by omega)]; omega
    have HZ := Lib.hid hz
    clear hz
    go_enter Tryz.func34, Tryz.ntmps34
    go_wp2
    go_ret
    exact ⟨by rw [HZ.out]; go_num, rfl⟩

theorem rint_any (x : Int) (w : World) (hx : I64 x) : Calls Tryz.prog 22 #[.int .i64 x] w fun e w' =>
      ∃ g c', e = .returned (.slice (some ⟨g, 0, none⟩) (vsint x).length c') ∧ SliceAt w' 5 1 (some g) (vsint x).length c' ((vsint x).map (Value.int .u8)) ∧ Keeps [] w w' ∧ w.heap.size ≤ g := by
  have hu := ruint_any (Lib.zigzag x) w (Lib.zigzag_lt hx.1 hx.2)
  have HU := Lib.hid hu
  clear hu
  go_enter Tryz.func22, Tryz.ntmps22
  go_wp2_with fail
  refine Calls.mono (rzig_any x w hx) ?_
  rintro e w1 ⟨rfl, rfl⟩
  go_wp2_with fail
  refine Calls.mono HU.out ?_
  rintro e w1 ⟨g, c, rfl, hsl, hk, hg⟩
  have HSL := Lib.hid hsl
  have HK := Lib.hid hk
  clear hsl hk
  go_wp2
  go_ret
  exact ⟨g, c, rfl, HSL.out, HK.out, hg⟩

/-- A step as it lies in memory: its rule, and its path's slice. -/
structure SRow where
  rule : Int
  pa : Option Addr
  path : List Int
  pc : Nat
def flatS (rows : List SRow) : List Value := rows.flatMap fun r => [.int .i64 r.rule, .slice r.pa r.path.length r.pc]
theorem flatS_length (rows : List SRow) : (flatS rows).length = rows.length * 2 := by
  induction rows with
  | nil => rfl
  | cons r rows ih => simp only [flatS, List.flatMap_cons, List.length_append, List.length_cons, List.length_nil] at ih ⊢; omega
theorem flatS_one (rows : List SRow) : ∀ u ∈ flatS rows, u.oneCell' = true := by
  intro u hu
  simp only [flatS, List.mem_flatMap] at hu
  obtain ⟨x, _, hx⟩ := hu
  simp at hx
  rcases hx with rfl | rfl <;> rfl
theorem flatS_get (rows : List SRow) : ∀ (k : Nat) (h : k < rows.length), (flatS rows)[k * 2]? = some (.int .i64 rows[k].rule) ∧ (flatS rows)[k * 2 + 1]? = some (.slice rows[k].pa rows[k].path.length rows[k].pc) := by
  induction rows with
  | nil => intro k h; simp at h
  | cons r rows ih =>
    intro k h
    cases k with
    | zero => simp [flatS]
    | succ k =>
      have := ih k (by simpa using h)
      have e : flatS (r :: rows) = [.int .i64 r.rule, .slice r.pa r.path.length r.pc] ++ flatS rows := by simp [flatS]
      have e1 : (k + 1) * 2 = k * 2 + 2 := by omega
      have e2 : (k + 1) * 2 + 1 = (k * 2 + 1) + 2 := by omega
      rw [e, e1, show k * 2 + 2 + 1 = (k * 2 + 1) + 2 by omega]
      simpa using this
theorem flatS_append (a b : List SRow) : flatS (a ++ b) = flatS a ++ flatS b := by simp [flatS]
/-- Steps in a slice of their own. -/
structure StepsAt (w : World) (e : Nat) (a : Option Nat) (c : Nat) (rows : List SRow) : Prop where
  sl : SliceAt w e 2 a rows.length c (flatS rows)
  ints : ∀ r ∈ rows, IntsIn w r.pa r.path
theorem IntsIn.keep {S : List Nat} {w w' : World} {a : Option Addr} {xs : List Int} (h : IntsIn w a xs) (k : Keeps S w w') (hs : ∀ b, a = some b → b.block ∉ S) : IntsIn w' a xs := fun h0 => by
  obtain ⟨b, off, h1, h2⟩ := h h0
  exact ⟨b, off, h1, fun j hj => k.cell (h2 j hj) (hs ⟨b, off, none⟩ h1)⟩
theorem StepsAt.keep0 {w w' : World} {e : Nat} {a : Option Nat} {c : Nat} {rows : List SRow} (h : StepsAt w e a c rows) (k : Keeps [] w w') : StepsAt w' e a c rows :=
  ⟨h.sl.keep k (by simp), fun r hr => (h.ints r hr).keep k (by simp)⟩
theorem StepsAt.cells {w : World} {e : Nat} {g : Nat} {c : Nat} {rows : List SRow} (h : StepsAt w e (some g) c rows) (k : Nat) (hk : k < rows.length) :
    w.cell? ⟨g, k * 2, none⟩ = some (.int .i64 rows[k].rule) ∧ w.cell? ⟨g, k * 2 + 1, none⟩ = some (.slice rows[k].pa rows[k].path.length rows[k].pc) := by
  have hl := flatS_length rows
  obtain ⟨h1, h2⟩ := flatS_get rows k hk
  obtain ⟨i1, e1⟩ := List.getElem?_eq_some_iff.1 h1
  obtain ⟨i2, e2⟩ := List.getElem?_eq_some_iff.1 h2
  rw [h.sl.cell _ i1, h.sl.cell _ i2, e1, e2]
  exact ⟨rfl, rfl⟩

/-- A slice of bytes of its own. -/
def BytesAt (w : World) (g c : Nat) (bs : List Int) : Prop := SliceAt w 5 1 (some g) bs.length c (bs.map (Value.int .u8))
theorem u8_one (bs : List Int) : ∀ u ∈ bs.map (Value.int .u8), u.oneCell' = true := by intro u hu; simp at hu; obtain ⟨x, _, rfl⟩ := hu; rfl
theorem vsint_pos (x : Int) : 0 < (vsint x).length := vint_pos _
theorem encInts_pos (l : List Int) : 0 < (encInts l).length := by unfold encInts; rw [List.length_append]; have := vint_pos l.length; omega

set_option maxRecDepth 100000 in
set_option maxHeartbeats 2000000 in
theorem rints_any (al : Option Addr) (l : List Int) (cl : Nat) (w : World) (hl : IntsIn w al l) (hx : ∀ x ∈ l, I64 x) (hn : l.length ≤ 1000) :
    Calls Tryz.prog 23 #[.slice al l.length cl] w fun e w' =>
      ∃ g c', e = .returned (.slice (some ⟨g, 0, none⟩) (encInts l).length c') ∧ BytesAt w' g c' (encInts l) ∧ Keeps [] w w' ∧ w.heap.size ≤ g := by
  obtain ⟨i0, hi, hz0, hz1, hz2⟩ := info_parts infoU8
  have Hi := Lib.hid hi
  have Hz0 := Lib.hid hz0
  have Hz1 := Lib.hid hz1
  have Hz2 := Lib.hid hz2
  have HL := Lib.hid hl
  have HX := Lib.hid hx
  clear hi hz0 hz1 hz2 hl hx
  have HVL := Lib.hid (vint_len64 (n := l.length) (by omega))
  go_enter Tryz.func23, Tryz.ntmps23
  go_wp2_with fail
  refine Calls.mono (ruint_any l.length w (by omega)) ?_
  rintro e w1 ⟨g1, c1, rfl, hsl, hk1, hg1⟩
  have HSL1 := Lib.hid hsl
  have HK1 := Lib.hid hk1
  clear hsl hk1
  go_wp2
  go_loopw [3, 4] (fun v i wr => ∃ (k g c : Nat) (pre : List Int), k ≤ l.length ∧ i = .int .i64 k ∧ v = .slice (some ⟨g, 0, none⟩) pre.length c ∧ pre = vint l.length ++ (l.take k).flatMap vsint ∧ BytesAt wr g c pre ∧ Keeps [] w wr ∧ w.heap.size ≤ g) (fun _ i _ => l.length - (intOf i).toNat)
  case atStart => exact ⟨0, g1, c1, vint l.length, Nat.zero_le _, rfl, rfl, by simp, HSL1.out, HK1.out, hg1⟩
  case round =>
    obtain ⟨k, g, c, pre, hk, rfl, rfl, hpre, hsl, hkp, hg⟩ := hrel
    have HSL := Lib.hid hsl
    have HK := Lib.hid hkp
    have HP := Lib.hid hpre
    clear hsl hkp hpre
    by_cases hlt : k < l.length
    · obtain ⟨bb, off, rfl, hc⟩ := HL.out (by omega)
      have dx := HK.out.cell (hc k hlt) (by simp)
      have hx := HX.out (l.getD k 0) (getD_mem hlt)
      have hft := flat_take l k hlt
      have hlen : pre.length ≤ 20000 := by
        have h1 := flat_len (l.take k) (fun x hx => HX.out x (List.mem_of_mem_take hx))
        have h2 := HVL.out
        rw [List.length_take] at h1
        rw [HP.out, List.length_append]
        omega
      obtain ⟨x, hxe⟩ : ∃ x, x = l.getD k 0 := ⟨_, rfl⟩
      rw [← hxe] at dx hx hft
      have HFT := Lib.hid hft
      clear hc hft hxe
      go_wp2_with fail
      refine Calls.mono (rint_any x wr hx) ?_
      rintro e w2 ⟨g2, c2, rfl, hsl2, hk2, hg2⟩
      have hvp := vsint_pos x
      have hvl := vsint_len hx
      have HSLa := Lib.hid (HSL.out.keep hk2 (by simp))
      have HSL2 := Lib.hid hsl2
      have HK2 := Lib.hid (HK.out.trans hk2)
      clear hsl2 hk2
      go_wp2_with (at_builtin; refine wpList_append_sl rfl (.tmp 15) (.tmp 20) 23 rfl 5 i0 _ 1 1 Tryz.underlying23 Hi.out Hz0.out Hz1.out Hz2.out rfl (by decide) (some g) pre.length c _ rfl HSLa.out ⟨g2, 0, none⟩ (vsint x).length c2 ((vsint x).map (Value.int .u8)) rfl (by simp) ?hnews (u8_one _) hvp (by omega) (by omega) ?hk)
      case hnews => exact HSL2.out.owns.cells rfl
      case hk =>
        intro g3 c3 w3 hsl3 hk3 hg3
        have hK3 : Keeps [] w w3 := HK2.out.after hk3 (by intro z hz; simp at hz; subst hz; exact .inr hg)
        have hG3 : w.heap.size ≤ g3 := by
          rcases hg3 with h | h
          · omega
          · have := HK2.out.size; omega
        have HSL3 := Lib.hid hsl3
        have HK3 := Lib.hid hK3
        clear hsl3 hk3 hg3 hK3
        go_wp2
        go_roundw
        case rel =>
          refine ⟨k + 1, g3, c3, pre ++ vsint x, by omega, by go_num, by rw [List.length_append], by rw [HFT.out, ← List.append_assoc, ← HP.out], ?_, HK3.out, hG3⟩
          unfold BytesAt
          rw [List.length_append, List.map_append]
          exact HSL3.out
        case measure => simp [intOf]; omega
    · obtain rfl : k = l.length := by omega
      go_wp2
      go_ret
      have he : pre = encInts l := by rw [HP.out, List.take_length]; rfl
      exact ⟨g, c, by rw [← he]; rfl, by rw [← he]; exact HSL.out, HK.out, hg⟩

/-- The bytes of a step, and of steps. -/
def encStep (r : SRow) : List Int := vsint r.rule ++ encInts r.path
def encSteps (rows : List SRow) : List Int := vsint rows.length ++ rows.flatMap encStep
/-- Steps within bounds. -/
def RowsOk (rows : List SRow) : Prop := rows.length ≤ 1000 ∧ ∀ r ∈ rows, I64 r.rule ∧ r.path.length ≤ 1000 ∧ ∀ x ∈ r.path, I64 x
theorem encInts_len (l : List Int) (h : ∀ x ∈ l, I64 x) (hl : l.length ≤ 1000) : (encInts l).length ≤ 10 + 10 * l.length := by
  have h1 := flat_len l h
  have h2 := vint_len64 (n := l.length) (by omega)
  unfold encInts
  rw [List.length_append]
  omega
theorem encStep_len (r : SRow) (h : I64 r.rule ∧ r.path.length ≤ 1000 ∧ ∀ x ∈ r.path, I64 x) : (encStep r).length ≤ 10020 := by
  have h1 := vsint_len h.1
  have h2 := encInts_len r.path h.2.2 (by omega)
  unfold encStep
  rw [List.length_append]
  omega
theorem encs_len (rows : List SRow) (h : ∀ r ∈ rows, I64 r.rule ∧ r.path.length ≤ 1000 ∧ ∀ x ∈ r.path, I64 x) : (rows.flatMap encStep).length ≤ 10020 * rows.length := by
  induction rows with
  | nil => simp
  | cons r rows ih =>
    have h1 := encStep_len r (h r (by simp))
    have h2 := ih (fun y hy => h y (by simp [hy]))
    simp only [List.flatMap_cons, List.length_append, List.length_cons]
    omega
theorem encs_take (rows : List SRow) (k : Nat) (h : k < rows.length) : (rows.take (k + 1)).flatMap encStep = (rows.take k).flatMap encStep ++ encStep rows[k] := by
  rw [List.take_succ_eq_append_getElem h, List.flatMap_append]
  simp only [List.flatMap_cons, List.flatMap_nil, List.append_nil]

set_option maxRecDepth 100000 in
set_option maxHeartbeats 4000000 in
theorem rencode_any (a : Option Nat) (c : Nat) (rows : List SRow) (w : World) (hs : StepsAt w 27 a c rows) (hr : RowsOk rows) :
    Calls Tryz.prog 10 #[sv a rows.length c] w fun e w' =>
      ∃ g c', e = .returned (.slice (some ⟨g, 0, none⟩) (encSteps rows).length c') ∧ BytesAt w' g c' (encSteps rows) ∧ Keeps [] w w' ∧ w.heap.size ≤ g := by
  obtain ⟨i0, hi, hz0, hz1, hz2⟩ := info_parts infoU8
  have Hi := Lib.hid hi
  have Hz0 := Lib.hid hz0
  have Hz1 := Lib.hid hz1
  have Hz2 := Lib.hid hz2
  have HS := Lib.hid hs
  have HR := Lib.hid hr.2
  have hn := hr.1
  clear hi hz0 hz1 hz2 hs hr
  simp only [sv]
  go_enter Tryz.func10, Tryz.ntmps10
  go_wp2_with fail
  refine Calls.mono (rint_any rows.length w ⟨by omega, by omega⟩) ?_
  rintro e w1 ⟨g1, c1, rfl, hsl, hk1, hg1⟩
  have HSL1 := Lib.hid hsl
  have HK1 := Lib.hid hk1
  clear hsl hk1
  go_wp2
  go_loopw [3, 4] (fun v i wr => ∃ (k g c : Nat) (pre : List Int), k ≤ rows.length ∧ i = .int .i64 k ∧ v = .slice (some ⟨g, 0, none⟩) pre.length c ∧ pre = vsint rows.length ++ (rows.take k).flatMap encStep ∧ BytesAt wr g c pre ∧ Keeps [] w wr ∧ w.heap.size ≤ g) (fun _ i _ => rows.length - (intOf i).toNat)
  case atStart => exact ⟨0, g1, c1, vsint rows.length, Nat.zero_le _, rfl, rfl, by simp, HSL1.out, HK1.out, hg1⟩
  case round =>
    obtain ⟨k, g, cc, pre, hk, rfl, rfl, hpre, hsl, hkp, hg⟩ := hrel
    have HSL := Lib.hid hsl
    have HK := Lib.hid hkp
    have HP := Lib.hid hpre
    clear hsl hkp hpre
    by_cases hlt : k < rows.length
    · cases a with
      | none => exfalso; have h1 := HS.out.sl.2; have h2 : rows.length = 0 := h1.1; omega
      | some gs =>
      simp only [Option.map_some]
      have hS := HS.out.keep0 HK.out
      obtain ⟨d1, d2⟩ := hS.cells k hlt
      have hrk := HR.out rows[k] (List.getElem_mem hlt)
      have hik := hS.ints rows[k] (List.getElem_mem hlt)
      have hft := encs_take rows k hlt
      have hlen : pre.length ≤ 20000000 := by
        have h1 := encs_len (rows.take k) (fun x hx => HR.out x (List.mem_of_mem_take hx))
        have h2 := vsint_len (x := rows.length) ⟨by omega, by omega⟩
        rw [List.length_take] at h1
        rw [HP.out, List.length_append]
        omega
      obtain ⟨r, hre⟩ : ∃ r, r = rows[k] := ⟨_, rfl⟩
      rw [← hre] at d1 d2 hrk hik hft
      have HRE := Lib.hid hre
      clear hre
      obtain ⟨rl, pa, path, pc⟩ := r
      simp only at d1 d2 hrk hik
      obtain ⟨hr1, hr2, hr3⟩ := hrk
      have HFT := Lib.hid hft
      have HIK := Lib.hid hik
      have HR3 := Lib.hid hr3
      have hel := encInts_len path hr3 (by omega)
      clear hS hft hik hr3
      go_wp2_with fail
      refine Calls.mono (rint_any rl wr hr1) ?_
      rintro e w2 ⟨g2, c2, rfl, hsl2, hk2, hg2⟩
      have hvp := vsint_pos rl
      have hvl := vsint_len hr1
      have HSLa := Lib.hid (HSL.out.keep hk2 (by simp))
      have HSL2 := Lib.hid hsl2
      have HK2 := Lib.hid (HK.out.trans hk2)
      clear hsl2 hk2 HSL d1
      go_wp2_with (at_builtin; refine wpList_append_sl rfl (.tmp 14) (.tmp 20) 23 rfl 5 i0 _ 1 1 Tryz.underlying23 Hi.out Hz0.out Hz1.out Hz2.out rfl (by decide) (some g) pre.length cc _ rfl HSLa.out ⟨g2, 0, none⟩ (vsint rl).length c2 ((vsint rl).map (Value.int .u8)) rfl (by simp) ?hnews (u8_one _) hvp (by omega) (by omega) ?hk)
      case hnews => exact HSL2.out.owns.cells rfl
      case hk =>
        intro g3 c3 w3 hsl3 hk3 hg3
        have hK3 : Keeps [] w w3 := HK2.out.after hk3 (by intro z hz; simp at hz; subst hz; exact .inr hg)
        have hG3 : w.heap.size ≤ g3 := by
          rcases hg3 with h | h
          · omega
          · have := HK2.out.size; omega
        have hS3 := HS.out.keep0 hK3
        have e2 := (hS3.cells k hlt).2
        rw [← HRE.out] at e2
        simp only at e2
        have hik3 : IntsIn w3 pa path := by have h1 := hS3.ints rows[k] (List.getElem_mem hlt); rw [← HRE.out] at h1; exact h1
        have HIK3 := Lib.hid hik3
        have HSL3 := Lib.hid hsl3
        have HK3 := Lib.hid hK3
        clear hsl3 hk3 hg3 hK3 hS3 hik3 HIK d2 HSLa HSL2 HK2
        go_wp2_with fail
        refine Calls.mono (rints_any pa path pc w3 HIK3.out HR3.out (by omega)) ?_
        rintro e w4 ⟨g4, c4, rfl, hsl4, hk4, hg4⟩
        have hep := encInts_pos path
        have HSLb := Lib.hid (HSL3.out.keep hk4 (by simp))
        have HSL4 := Lib.hid hsl4
        have HK4 := Lib.hid (HK3.out.trans hk4)
        clear hsl4 hk4 e2
        go_wp2_with (at_builtin; refine wpList_append_sl rfl (.tmp 22) (.tmp 28) 23 rfl 5 i0 _ 1 1 Tryz.underlying23 Hi.out Hz0.out Hz1.out Hz2.out rfl (by decide) (some g3) (pre.length + (vsint rl).length) c3 _ rfl HSLb.out ⟨g4, 0, none⟩ (encInts path).length c4 ((encInts path).map (Value.int .u8)) rfl (by simp) ?hnews (u8_one _) hep (by omega) (by omega) ?hk)
        case hnews => exact HSL4.out.owns.cells rfl
        case hk =>
          intro g5 c5 w5 hsl5 hk5 hg5
          have hK5 : Keeps [] w w5 := HK4.out.after hk5 (by intro z hz; simp at hz; subst hz; exact .inr hG3)
          have hG5 : w.heap.size ≤ g5 := by
            rcases hg5 with h | h
            · omega
            · have := HK4.out.size; omega
          have HSL5 := Lib.hid hsl5
          have HK5 := Lib.hid hK5
          clear hsl5 hk5 hg5 hK5
          go_wp2
          go_roundw
          case rel =>
            refine ⟨k + 1, g5, c5, pre ++ encStep ⟨rl, pa, path, pc⟩, by omega, by go_num, ?_, by rw [HFT.out, ← List.append_assoc, ← HP.out], ?_, HK5.out, hG5⟩
            · unfold encStep
              rw [List.length_append, List.length_append, Nat.add_assoc]
            · unfold BytesAt encStep
              rw [← List.append_assoc, List.length_append, List.length_append, List.map_append, List.map_append, List.append_assoc]
              exact HSL5.out
          case measure => simp [intOf]; omega
    · obtain rfl : k = rows.length := by omega
      go_wp2
      go_ret
      have he : pre = encSteps rows := by rw [HP.out, List.take_length]; rfl
      exact ⟨g, cc, by rw [← he]; rfl, by rw [← he]; exact HSL.out, HK.out, hg⟩

end Go.Proofs.YtgdmkddegcecaaaGreat
