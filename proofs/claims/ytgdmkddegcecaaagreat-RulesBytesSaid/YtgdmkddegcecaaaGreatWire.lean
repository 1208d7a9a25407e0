/- wire.Writer: its bytes are those of the numbers' variable-length forms. Conditions: the writer lies in memory as WAt says. -/
import Derived.Test.YtgdmkddegcecaaaGreatProg
import Derived.Test.YtgdmkddegcecaaaGreatRow
import Derived.Lib.Zigzag
import Derived.Lib.VarintBits
namespace Go.Proofs.YtgdmkddegcecaaaGreat
open Go.RowKit

/-- The bytes of an unsigned number. -/
def vint (n : Nat) : List Int := if h : n < 128 then [(n : Int)] else ((n % 128 + 128 : Nat) : Int) :: vint (n / 128)
termination_by n
decreasing_by omega
theorem vint_small {n : Nat} (h : n < 128) : vint n = [(n : Int)] := by rw [vint, dif_pos h]
theorem vint_big {n : Nat} (h : 128 ≤ n) : vint n = ((n % 128 + 128 : Nat) : Int) :: vint (n / 128) := by rw [vint, dif_neg (by omega)]
theorem vint_len : ∀ (k n : Nat), n < 128 ^ (k + 1) → (vint n).length ≤ k + 1 := by
  intro k
  induction k with
  | zero => intro n hn; rw [vint_small (by omega)]; simp
  | succ k ih =>
    intro n hn
    by_cases h : n < 128
    · rw [vint_small h]; simp
    · rw [vint_big (by omega)]
      have := ih (n / 128) (by rw [Nat.div_lt_iff_lt_mul (by omega)]; rw [Nat.pow_succ] at hn; exact hn)
      simp only [List.length_cons]
      omega
theorem vint_len64 {n : Nat} (h : n < 18446744073709551616) : (vint n).length ≤ 10 := vint_len 9 n (by
  have : (128 : Nat) ^ (9 + 1) = 1180591620717411303424 := by decide
  omega)
theorem vint_pos (n : Nat) : 0 < (vint n).length := by
  by_cases h : n < 128
  · rw [vint_small h]; simp
  · rw [vint_big (by omega)]; simp

theorem infoU8 : (Tryz.prog.info? 5).map (fun i => (i.zero, i.size, i.bytes)) = some (some (.int .u8 0), 1, 1) := by kernel_rfl
theorem infoI : (Tryz.prog.info? 3).map (fun i => (i.zero, i.size, i.bytes)) = some (some (.int .i64 0), 1, 8) := by kernel_rfl
/-- A writer at block b whose bytes are bs. -/
structure WAt (w : World) (b : Nat) (a : Option Nat) (c : Nat) (bs : List Int) : Prop where
  cell : w.heap[b]? = some (.cells #[sv a bs.length c] 47 (0, 0))
  sl : SliceAt w 5 1 a bs.length c (bs.map (Value.int .u8))
  ne : a ≠ some b
theorem WAt.c0 {w : World} {b : Nat} {a : Option Nat} {c : Nat} {bs : List Int} (h : WAt w b a c bs) : w.cell? ⟨b, 0, none⟩ = some (sv a bs.length c) := by simp [World.cell?, h.cell]
theorem WAt.f0 {w : World} {b : Nat} {a : Option Nat} {c : Nat} {bs : List Int} (h : WAt w b a c bs) : w.frozen? ⟨b, 0, none⟩ = false := by simp [World.frozen?, h.cell]
theorem WAt.keep {S : List Nat} {w w' : World} {b : Nat} {a : Option Nat} {c : Nat} {bs : List Int} (h : WAt w b a c bs) (k : Keeps S w w') (hb : b ∉ S) (ha : ∀ g, a = some g → g ∉ S) : WAt w' b a c bs :=
  ⟨k.heap h.cell hb, h.sl.keep k ha, h.ne⟩

set_option maxRecDepth 100000 in
set_option maxHeartbeats 2000000 in
theorem wuint_any (b : Nat) (a : Option Nat) (c : Nat) (bs : List Int) (n : Nat) (w : World) (hW : WAt w b a c bs) (hn : n < 18446744073709551616) (hl : bs.length ≤ 140737488355000) :
    Calls Tryz.prog 31 #[.pointer (some ⟨b, 0, none⟩), .int .u64 n] w fun e w' =>
      e = .returned (.tuple #[]) ∧ ∃ a' c', WAt w' b a' c' (bs ++ vint n) ∧ Keeps (b :: a.toList) w w' ∧ (a' = a ∨ ∃ g, a' = some g ∧ w.heap.size ≤ g) := by
  have HW := Lib.hid hW
  obtain ⟨i0, hi, hz0, hz1, hz2⟩ := info_parts infoU8
  have Hi := Lib.hid hi
  have Hz0 := Lib.hid hz0
  have Hz1 := Lib.hid hz1
  have Hz2 := Lib.hid hz2
  clear hW hi hz0 hz1 hz2
  have hvl := vint_len64 hn
  go_enter Tryz.func31, Tryz.ntmps31
  go_wp2
  go_loopw [1] (fun s wr => ∃ (m : Nat) (pre : List Int) (a' : Option Nat) (c' : Nat), s = .int .u64 m ∧ m < 18446744073709551616 ∧ pre ++ vint m = vint n ∧ WAt wr b a' c' (bs ++ pre) ∧ Keeps (b :: a.toList) w wr ∧ (a' = a ∨ ∃ g, a' = some g ∧ w.heap.size ≤ g)) (fun s _ => (intOf s).toNat)
  case atStart => exact ⟨n, [], a, c, rfl, hn, rfl, by simpa using HW.out, Keeps.refl _ _, .inl rfl⟩
  case round =>
    obtain ⟨m, pre, a', c', rfl, hm, hpre, hW, hk, ha⟩ := hrel
    have hpl : pre.length + (vint m).length ≤ 10 := by rw [← List.length_append, hpre]; exact hvl
    have hvp := vint_pos m
    obtain ⟨bp, hbp⟩ : ∃ bp, bp = bs ++ pre := ⟨_, rfl⟩
    have hbl : bp.length ≤ 140737488355100 := by rw [hbp, List.length_append]; omega
    rw [← hbp] at hW
    have d0 : wr.cell? ⟨b, 0, none⟩ = some (.slice (a'.map fun g => ⟨g, 0, none⟩) bp.length c') := hW.c0
    have f0 := hW.f0
    have HWr := Lib.hid hW
    have HK := Lib.hid hk
    have HA := Lib.hid ha
    have HP := Lib.hid hpre
    have HBP := Lib.hid hbp
    have hsz : b < wr.heap.size := lt_of_block hW.cell
    have hfin : ∀ (y : Int) (g c2 : Nat) (w2 : World), SliceAt w2 5 1 (some g) (bp.length + 1) c2 (bp.map (Value.int .u8) ++ [Value.int .u8 y]) → Keeps a'.toList (wr.alloc (.cells #[.int .u8 y] 5)) w2 → (a' = some g ∨ wr.heap.size + 1 ≤ g) →
        WAt (w2.setCell ⟨b, 0, none⟩ (.slice (some ⟨g, 0, none⟩) (bp.length + 1) c2)) b (some g) c2 (bp ++ [y]) ∧ Keeps (b :: a.toList) w (w2.setCell ⟨b, 0, none⟩ (.slice (some ⟨g, 0, none⟩) (bp.length + 1) c2)) ∧ (some g = a ∨ ∃ g', some g = some g' ∧ w.heap.size ≤ g') ∧
        w2.cell? ⟨b, 0, none⟩ = some (.slice (a'.map fun g => ⟨g, 0, none⟩) bp.length c') ∧ w2.frozen? ⟨b, 0, none⟩ = false := by
      intro y g c2 w2 hsl hk hg
      have hne : a' ≠ some b := HWr.out.ne
      have hbn : b ∉ a'.toList := by simpa using hne
      have hgb : g ≠ b := by
        rintro rfl
        rcases hg with hg | hg
        · exact hne hg
        · omega
      have kW : Keeps a'.toList wr w2 := ((Keeps.refl a'.toList wr).alloc _).trans hk
      have hc2 := kW.heap HWr.out.cell hbn
      have hlen : (bp ++ [y]).length = bp.length + 1 := by simp
      refine ⟨⟨?_, ?_, by simpa using hgb⟩, ?_, ?_, by simp [World.cell?, hc2, sv], by simp [World.frozen?, hc2]⟩
      · rw [hlen]; have := heap_setCell_same w2 b 0 _ _ (.slice (some ⟨g, 0, none⟩) (bp.length + 1) c2) hc2; simpa [sv] using this
      · rw [hlen]
        have h2 : (bp ++ [y]).map (Value.int .u8) = bp.map (Value.int .u8) ++ [Value.int .u8 y] := by simp
        rw [h2]
        exact hsl.keep ((Keeps.refl [b] w2).setCell (.inl (by simp)) _) (by intro z hz; simp at hz; subst hz; simpa using hgb)
      · refine Keeps.setCell ?_ (.inl (by simp)) _
        refine HK.out.after kW ?_
        intro x hx
        rcases HA.out with rfl | ⟨g', rfl, hg'⟩
        · left; simp at hx ⊢; exact .inr hx
        · simp at hx; subst hx; exact .inr hg'
      · rcases hg with hg | hg
        · rcases HA.out with h | ⟨g', h, hg'⟩
          · left; rw [← hg, h]
          · right; rw [hg] at h; exact ⟨g, rfl, by simp at h; omega⟩
        · right; refine ⟨g, rfl, ?_⟩; have := HK.out.size; omega
    have HF := Lib.hid hfin
    clear hfin hW hk ha hpre hbp
    by_cases h : 128 ≤ m
    · have hi : (128 : Int) ≤ (m : Int) := by omega
      obtain ⟨y, hy⟩ : ∃ y : Int, y = ((m % 128 + 128 : Nat) : Int) := ⟨_, rfl⟩
      have hbit : bits .or .u8 ((m : Int) % 256) 128 = y := by
        rw [Lib.u8_or128_any _ (by omega) (by omega), hy]; omega
      have HY := Lib.hid hy
      clear hy
      go_wp2_with (at_builtin; refine wpList_append_sl rfl (.tmp 10) (.tmp 14) 23 rfl 5 i0 _ 1 1 Tryz.underlying23 Hi.out Hz0.out Hz1.out Hz2.out rfl (by decide) a' bp.length c' _ rfl (HWr.out.sl.alloc _) ⟨wr.heap.size, 0, none⟩ 1 1 [.int .u8 y] rfl rfl ?hnews ?hone (by decide) (by omega) (by omega) ?hk)
      case hnews => exact news_row' _ _ _ _ rfl
      case hone => intro u hu; simp at hu; subst hu; rfl
      case hk =>
        intro g c2 w2 hsl hk2 hg
        obtain ⟨f1, f2, f3, f4, f5⟩ := HF.out y g c2 w2 hsl hk2 (by simpa using hg)
        have F1 := Lib.hid f1
        have F2 := Lib.hid f2
        have F3 := Lib.hid f3
        clear f1 f2 f3 hsl hk2 hg
        go_wp2
        go_roundw
        case rel =>
          refine ⟨m / 128, pre ++ [y], some g, c2, by go_num, by omega, ?_, ?_, F2.out, F3.out⟩
          · rw [← HP.out, vint_big h, HY.out, List.append_assoc]; rfl
          · rw [← List.append_assoc, ← HBP.out]; exact F1.out
        case measure => simp [intOf]; omega
    · have hi : ¬ (128 : Int) ≤ (m : Int) := by omega
      go_wp2_with (at_builtin; refine wpList_append_sl rfl (.tmp 24) (.tmp 27) 23 rfl 5 i0 _ 1 1 Tryz.underlying23 Hi.out Hz0.out Hz1.out Hz2.out rfl (by decide) a' bp.length c' _ rfl (HWr.out.sl.alloc _) ⟨wr.heap.size, 0, none⟩ 1 1 [.int .u8 m] rfl rfl ?hnews ?hone (by decide) (by omega) (by omega) ?hk)
      case hone => rfl
      case hk =>
        intro g c2 w2 hsl hk2 hg
        obtain ⟨f1, f2, f3, f4, f5⟩ := HF.out m g c2 w2 hsl hk2 (by simpa using hg)
        have F1 := Lib.hid f1
        have F2 := Lib.hid f2
        have F3 := Lib.hid f3
        clear f1 f2 f3 hsl hk2 hg
        go_wp2
        go_end0
        refine ⟨rfl, some g, c2, ?_, F2.out, F3.out⟩
        have h1 := F1.out
        have h2 : bp ++ [(m : Int)] = bs ++ vint n := by rw [HBP.out, List.append_assoc, ← vint_small (by omega : m < 128), HP.out]
        rw [h2] at h1
        exact h1

theorem bits_xor_comm (k : IntKind) (x y : Int) : bits .xor k x y = bits .xor k y x := by
  simp only [bits, BitVec.xor_comm]

/-- The bytes of a signed number. -/
def vsint (x : Int) : List Int := vint (Lib.zigzag x)
theorem vsint_len {x : Int} (h : I64 x) : (vsint x).length ≤ 10 := vint_len64 (Lib.zigzag_lt h.1 h.2)

set_option maxHeartbeats 1000000 in
theorem wint_any (b : Nat) (a : Option Nat) (c : Nat) (bs : List Int) (x : Int) (w : World) (hW : WAt w b a c bs) (hx : I64 x) (hl : bs.length ≤ 140737488355000) :
    Calls Tryz.prog 16 #[.pointer (some ⟨b, 0, none⟩), .int .i64 x] w fun e w' =>
      e = .returned (.tuple #[]) ∧ ∃ a' c', WAt w' b a' c' (bs ++ vsint x) ∧ Keeps (b :: a.toList) w w' ∧ (a' = a ∨ ∃ g, a' = some g ∧ w.heap.size ≤ g) := by
  have HW := Lib.hid hW
  have hz := Lib.zigzag_lt hx.1 hx.2
  obtain ⟨x0, x1⟩ := hx
  have fin : ∀ (e : Ending) (w' : World), (e = .returned (.tuple #[]) ∧ ∃ a' c', WAt w' b a' c' (bs ++ vint (Lib.zigzag x)) ∧ Keeps (b :: a.toList) w w' ∧ (a' = a ∨ ∃ g, a' = some g ∧ w.heap.size ≤ g)) → e = .returned (.tuple #[]) ∧ ∃ a' c', WAt w' b a' c' (bs ++ vsint x) ∧ Keeps (b :: a.toList) w w' ∧ (a' = a ∨ ∃ g, a' = some g ∧ w.heap.size ≤ g) := fun _ _ h => h
  have FIN := Lib.hid fin
  have HZ := Lib.hid hz
  clear fin hz hW
  by_cases h0 : x < 0
  · have hE : bits .xor .u64 (IntKind.u64.wrap (IntKind.u64.wrap x * 2)) (IntKind.u64.wrap (x / 9223372036854775808)) = ((Lib.zigzag x : Nat) : Int) := by
      have hq : x / 9223372036854775808 = -1 := by omega
      rw [hq, show IntKind.u64.wrap (-1) = IntKind.u64.max by decide, bits_xor_comm]
      exact Lib.zigzag_neg x0 h0
    have HE := Lib.hid hE
    clear hE
    go_enter Tryz.func16, Tryz.ntmps16
    go_wp2_with fail
    rw [HE.out]
    refine Calls.mono (wuint_any b a c bs _ w HW.out HZ.out hl) ?_
    rintro e w' ⟨rfl, hr⟩
    have HR := Lib.hid hr
    clear hr
    go_wp2
    go_end0
    exact FIN.out _ _ ⟨rfl, HR.out⟩
  · have hE : bits .xor .u64 (x * 2) (x / 9223372036854775808) = ((Lib.zigzag x : Nat) : Int) := by
      have hq : x / 9223372036854775808 = 0 := by omega
      rw [hq, Lib.zigzag_nonneg (x := x) (by omega)]
      obtain ⟨k, hk⟩ : ∃ k : Nat, x * 2 = k := ⟨(x * 2).toNat, by omega⟩
      rw [hk]
      have := bits_xor_u64_nat k 0 (by omega) (by omega)
      simpa using this
    have HE := Lib.hid hE
    clear hE
    go_enter Tryz.func16, Tryz.ntmps16
    go_wp2_with fail
    rw [HE.out]
    refine Calls.mono (wuint_any b a c bs _ w HW.out HZ.out hl) ?_
    rintro e w' ⟨rfl, hr⟩
    have HR := Lib.hid hr
    clear hr
    go_wp2
    go_end0
    exact FIN.out _ _ ⟨rfl, HR.out⟩

/-- The bytes of a list of signed numbers. -/
def encInts (l : List Int) : List Int := vint l.length ++ l.flatMap vsint
theorem flat_len (l : List Int) (h : ∀ x ∈ l, I64 x) : (l.flatMap vsint).length ≤ 10 * l.length := by
  induction l with
  | nil => simp
  | cons x l ih =>
    have h1 := vsint_len (h x (by simp))
    have h2 := ih (fun y hy => h y (by simp [hy]))
    simp only [List.flatMap_cons, List.length_append, List.length_cons]
    omega
theorem flat_take (l : List Int) (k : Nat) (h : k < l.length) : (l.take (k + 1)).flatMap vsint = (l.take k).flatMap vsint ++ vsint (l.getD k 0) := by
  have h1 := List.take_succ_eq_append_getElem h
  have h2 : l.getD k 0 = l[k] := by simp [h]
  rw [h1, List.flatMap_append, h2]
  simp only [List.flatMap_cons, List.flatMap_nil, List.append_nil]
/-- The writer's slice after a call: as it was, or a new block. -/
theorem wstep {b : Nat} {a a' a2 : Option Nat} {w wr w2 : World} (hK : Keeps (b :: a.toList) w wr) (hA : a' = a ∨ ∃ g, a' = some g ∧ w.heap.size ≤ g) (hk : Keeps (b :: a'.toList) wr w2) (ha : a2 = a' ∨ ∃ g, a2 = some g ∧ wr.heap.size ≤ g) :
    Keeps (b :: a.toList) w w2 ∧ (a2 = a ∨ ∃ g, a2 = some g ∧ w.heap.size ≤ g) := by
  constructor
  · refine hK.after hk ?_
    intro x hx
    rcases List.mem_cons.1 hx with rfl | hx
    · left; simp
    · rcases hA with rfl | ⟨g, rfl, hg⟩
      · left; simp at hx ⊢; exact .inr hx
      · simp at hx; subst hx; exact .inr hg
  · rcases ha with rfl | ⟨g, rfl, hg⟩
    · exact hA
    · have := hK.size; exact .inr ⟨g, rfl, by omega⟩

theorem getD_mem {xs : List Int} {i : Nat} (h : i < xs.length) : xs.getD i 0 ∈ xs := by
  rw [List.getD_eq_getElem?_getD, List.getElem?_eq_getElem h]; simp

set_option maxHeartbeats 2000000 in
theorem wints_any (b : Nat) (a : Option Nat) (c : Nat) (bs : List Int) (al : Option Addr) (l : List Int) (cl : Nat) (w : World) (hW : WAt w b a c bs) (hl : IntsIn w al l) (hx : ∀ x ∈ l, I64 x) (hn : l.length ≤ 1000) (hb : bs.length ≤ 100000000)
    (hd : 0 < l.length → ∀ bb, al = some bb → bb.block ≠ b ∧ a ≠ some bb.block) :
    Calls Tryz.prog 17 #[.pointer (some ⟨b, 0, none⟩), .slice al l.length cl] w fun e w' =>
      e = .returned (.tuple #[]) ∧ ∃ a' c', WAt w' b a' c' (bs ++ encInts l) ∧ Keeps (b :: a.toList) w w' ∧ (a' = a ∨ ∃ g, a' = some g ∧ w.heap.size ≤ g) := by
  have HW := Lib.hid hW
  have HL := Lib.hid hl
  have HX := Lib.hid hx
  have HD := Lib.hid hd
  clear hW hl hx hd
  have hvl := vint_len64 (n := l.length) (by omega)
  have HVL := Lib.hid hvl
  clear hvl
  go_enter Tryz.func17, Tryz.ntmps17
  go_wp2_with fail
  refine Calls.mono (wuint_any b a c bs l.length w HW.out (by omega) (by omega)) ?_
  rintro e w1 ⟨rfl, a1, c1, hW1, hk1, ha1⟩
  have HW1 := Lib.hid hW1
  have HK1 := Lib.hid hk1
  have HA1 := Lib.hid ha1
  clear hW1 hk1 ha1
  go_wp2
  go_loopw [5, 13] (fun _ i wr => ∃ (k : Nat) (a' : Option Nat) (c' : Nat), k ≤ l.length ∧ i = .int .i64 k ∧ WAt wr b a' c' (bs ++ vint l.length ++ (l.take k).flatMap vsint) ∧ Keeps (b :: a.toList) w wr ∧ (a' = a ∨ ∃ g, a' = some g ∧ w.heap.size ≤ g)) (fun _ i _ => l.length - (intOf i).toNat)
  case atStart => exact ⟨0, a1, c1, Nat.zero_le _, rfl, by simpa using HW1.out, HK1.out, HA1.out⟩
  case round =>
    obtain ⟨k, a', c', hk, rfl, hW, hkp, ha⟩ := hrel
    have HWr := Lib.hid hW
    have HK := Lib.hid hkp
    have HA := Lib.hid ha
    clear hW hkp ha
    by_cases hlt : k < l.length
    · obtain ⟨bb, off, rfl, hc⟩ := HL.out (by omega)
      have hdd := HD.out (by omega) _ rfl
      have dx := HK.out.cell (hc k hlt) (by
        simp only [List.mem_cons, not_or]
        refine ⟨hdd.1, fun h => hdd.2 ?_⟩
        simpa using h)
      have hx := HX.out (l.getD k 0) (getD_mem hlt)
      have hft := flat_take l k hlt
      have hlen : (bs ++ vint l.length ++ (l.take k).flatMap vsint).length ≤ 140737488355000 := by
        have h1 := flat_len (l.take k) (fun x hx => HX.out x (List.mem_of_mem_take hx))
        have h2 := HVL.out
        rw [List.length_take] at h1
        rw [List.length_append, List.length_append]
        omega
      obtain ⟨x, hxe⟩ : ∃ x, x = l.getD k 0 := ⟨_, rfl⟩
      rw [← hxe] at dx hx hft
      have HFT := Lib.hid hft
      have HLEN := Lib.hid hlen
      clear hc hdd hft hxe hlen
      go_wp2_with fail
      refine Calls.mono (wint_any b a' c' _ x wr HWr.out hx HLEN.out) ?_
      rintro e w2 ⟨rfl, a2, c2, hW2, hk2, ha2⟩
      have hst := wstep HK.out HA.out hk2 ha2
      have HW2 := Lib.hid hW2
      have HST := Lib.hid hst
      clear hW2 hk2 ha2 hst
      go_wp2
      go_roundw
      case rel => exact ⟨k + 1, a2, c2, by omega, by go_num, by rw [HFT.out, ← List.append_assoc]; exact HW2.out, HST.out.1, HST.out.2⟩
      case measure => simp [intOf]; omega
    · obtain rfl : k = l.length := by omega
      go_wp2
      go_end0
      refine ⟨rfl, a', c', ?_, HK.out, HA.out⟩
      have h1 := HWr.out
      rw [List.take_length, List.append_assoc] at h1
      exact h1

set_option maxRecDepth 100000 in
set_option maxHeartbeats 1000000 in
theorem wdone_any (b : Nat) (a : Option Nat) (c : Nat) (bs : List Int) (w : World) (hW : WAt w b a c bs) (hb : 0 < bs.length) (hb2 : bs.length ≤ 100000000) :
    Calls Tryz.prog 18 #[.pointer (some ⟨b, 0, none⟩)] w fun e w' =>
      ∃ g c', e = .returned (.slice (some ⟨g, 0, none⟩) bs.length c') ∧ SliceAt w' 5 1 (some g) bs.length c' (bs.map (Value.int .u8)) ∧ Keeps [] w w' ∧ w.heap.size ≤ g := by
  obtain ⟨i0, hi, hz0, hz1, hz2⟩ := info_parts infoU8
  have Hi := Lib.hid hi
  have Hz0 := Lib.hid hz0
  have Hz1 := Lib.hid hz1
  have Hz2 := Lib.hid hz2
  have HW := Lib.hid hW
  have d0 : w.cell? ⟨b, 0, none⟩ = some (.slice (a.map fun g => ⟨g, 0, none⟩) bs.length c) := hW.c0
  cases a with
  | none => exfalso; have h1 := hW.sl.2; have h2 : bs.length = 0 := h1.1; omega
  | some ga =>
  clear hi hz0 hz1 hz2 hW
  simp only [Option.map_some] at d0
  have hnw : ga < w.heap.size := HW.out.sl.lt
  have d1 : (w.alloc (.cells #[] 5)).cell? ⟨b, 0, none⟩ = some (.slice (some ⟨ga, 0, none⟩) bs.length c) := ((Keeps.refl [] w).alloc _).cell d0 (by simp)
  go_enter Tryz.func18, Tryz.ntmps18
  go_wp2_with (at_builtin; refine wpList_append_sl rfl (.tmp 3) (.tmp 7) 23 rfl 5 i0 _ 1 1 Tryz.underlying23 Hi.out Hz0.out Hz1.out Hz2.out rfl (by decide) (some w.heap.size) 0 0 [] rfl ?hown ⟨ga, 0, none⟩ bs.length c (bs.map (Value.int .u8)) rfl (by simp) ?hnews ?hone hb (by omega) (by omega) ?hk)
  case hown => exact ⟨by simp, #[], heap_alloc_new _ _, Nat.le_refl _, Nat.zero_le _, rfl, rfl⟩
  case hnews => exact (HW.out.sl.alloc _).owns.cells rfl
  case hone => intro u hu; simp at hu; obtain ⟨x, _, rfl⟩ := hu; rfl
  case hk =>
    intro g c' w2 hsl hk2 hg
    have hK2 : Keeps [] w w2 := ((Keeps.refl [] w).alloc _).after hk2 (by intro x hx; simp at hx; exact .inr (by omega))
    have hG2 : w.heap.size ≤ g := by rcases hg with hg | hg <;> omega
    have HSL := Lib.hid hsl
    have HK2 := Lib.hid hK2
    clear hsl hk2 hg hK2
    go_wp2
    go_ret
    exact ⟨g, c', rfl, by simpa using HSL.out, HK2.out, hG2⟩

end Go.Proofs.YtgdmkddegcecaaaGreat
