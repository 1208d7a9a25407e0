/- slices.Grow, slices.Concat, rules.nary and rules.swap over nodes in memory. Conditions: the nodes lie in memory and are not very many. -/
import Derived.Test.YtgdmkddegcecaaaGreatClone
import Derived.Lib.AppendZeros
import Derived.Test.YtgdmkddegcecaaaGreatRegion
namespace Go.Proofs.YtgdmkddegcecaaaGreat
open Go.RowKit

theorem zeroRe_cells : (Value.agg #[.int .i64 0, .slice none 0 0, .slice none 0 0, .int .i64 0, .int .i64 0, .int .i64 0, .int .i64 0, .bool false]).cells.size = 8 := rfl

theorem run_append_nil_zeros' (n : Nat) (w : World) (i : TypeInfo) (hi : Tryz.prog.info? 64 = some i) (hz0 : i.zero = some (.agg #[.int .i64 0, .slice none 0 0, .slice none 0 0, .int .i64 0, .int .i64 0, .int .i64 0, .int .i64 0, .bool false])) (hz1 : i.size = 8) (hz2 : i.bytes = 96) (h0 : ¬ n = 0) (hn : n ≤ 1000000) (ty : TypeId) :
    (Builtin.append_ #[62, 3] ty #[.slice none 0 0, .int .i64 n]).run Tryz.prog w =
      .ok (.slice (some ⟨w.heap.size, 0, none⟩) n (grownCap w n 0 64)) (w.drew.alloc (.cells (Builtin.zeroCells #[.int .i64 0, .slice none 0 0, .slice none 0 0, .int .i64 0, .int .i64 0, .int .i64 0, .int .i64 0, .bool false] n ++ Builtin.zeroCells #[.int .i64 0, .slice none 0 0, .slice none 0 0, .int .i64 0, .int .i64 0, .int .i64 0, .int .i64 0, .bool false] (grownCap w n 0 64 - n)) 64)) :=
  Lib.run_append_nil_zeros (P := Tryz.prog) w 62 3 ty 64 i _ .i64 .i64 Tryz.underlying62 Tryz.underlying3 hi hz0 n (by omega) (by omega) (by omega) (by rw [hz2]; omega)

set_option maxRecDepth 100000 in
set_option maxHeartbeats 400000 in
theorem grow_any (n : Nat) (w : World) (hn : n ≤ 1000000) :
    Calls Tryz.prog 91 #[.slice none 0 0, .int .i64 n] w fun e w' => ∃ a' c', e = .returned (sv a' 0 c') ∧ SliceAt w' 64 8 a' 0 c' [] ∧ Keeps [] w w' ∧ (∀ g, a' = some g → w.heap.size ≤ g) := by
  by_cases h0 : n = 0
  · subst h0
    go_enter Tryz.func91, Tryz.ntmps91
    go_wp2
    go_ret
    exact ⟨none, 0, rfl, SliceAt.nil _ _ _, Keeps.refl _ _, by simp⟩
  · obtain ⟨i0, hi, hz0, hz1, hz2⟩ := info_parts infoRe
    have hr := run_append_nil_zeros' n w i0 hi hz0 hz1 hz2 h0 hn 62
    have hge := grownCap_ge w n 0 64
    have hle := grownCap_le_maxLen w n 0 64 (by unfold maxLen; omega)
    have hsz : (Builtin.zeroCells #[.int .i64 0, .slice none 0 0, .slice none 0 0, .int .i64 0, .int .i64 0, .int .i64 0, .int .i64 0, .bool false] n ++ Builtin.zeroCells #[.int .i64 0, .slice none 0 0, .slice none 0 0, .int .i64 0, .int .i64 0, .int .i64 0, .int .i64 0, .bool false] (grownCap w n 0 64 - n)).size = grownCap w n 0 64 * 8 := by
      rw [Array.size_append, size_zeroCells, size_zeroCells, ← Nat.add_mul]
      congr 1
      omega
    have hn' : (0 : Int) < n := by omega
    obtain ⟨C, hC⟩ : ∃ C, C = grownCap w n 0 64 := ⟨_, rfl⟩
    rw [← hC] at hr hge hle hsz
    have HR := Lib.hid hr
    have HGE := Lib.hid hge
    have hc0 : ¬ C = 0 := by omega
    have hc1 : C ≤ 9223372036854775807 := by unfold maxLen at hle; omega
    clear hi hz0 hz1 hz2 hr hC hle
    have HLE := Lib.hid hc1
    go_enter Tryz.func91, Tryz.ntmps91
    go_wp2_with (at_builtin; refine Lib.wpList_append_run _ rfl _ _ _ _ rfl _ _ rfl rfl _ _ HR.out ?_)
    go_wp2
    go_ret
    exact ⟨some w.heap.size, C, rfl, ⟨by simp, _, heap_alloc_new w _, by omega, by have := HLE.out; unfold maxLen; omega, hsz, by simp⟩, ((Keeps.refl [] w).alloc _).drew, by intro g hg; cases hg; exact Nat.le_refl _⟩

/-- A slice of nodes. -/
structure Part where
  ka : Option Addr
  kc : Nat
  kids : List MRe
def Part.val (p : Part) : Value := .slice p.ka p.kids.length p.kc
def total (l : List Part) : Nat := (l.flatMap Part.kids).length
theorem total_take (l : List Part) (k : Nat) (h : k < l.length) : total (l.take (k + 1)) = total (l.take k) + l[k].kids.length := by
  unfold total
  rw [List.take_succ_eq_append_getElem h, List.flatMap_append, List.length_append]
  simp
theorem total_le (l : List Part) (k : Nat) : total (l.take k) ≤ total l := by
  unfold total
  have h := congrArg List.length (congrArg (List.flatMap Part.kids) (List.take_append_drop k l))
  rw [List.flatMap_append, List.length_append] at h
  omega

set_option maxRecDepth 100000 in
set_option maxHeartbeats 4000000 in
theorem concat_any (g : Nat) (parts : List Part) (w : World) (hg : ∀ i (h : i < parts.length), w.cell? ⟨g, i, none⟩ = some parts[i].val) (hk : ∀ p ∈ parts, KidsIn w p.ka p.kc p.kids) (hb : total parts ≤ 1000000) (hl : parts.length ≤ 10) :
    Calls Tryz.prog 81 #[.slice (some ⟨g, 0, none⟩) parts.length parts.length] w fun e w' => ∃ a' c', e = .returned (sv a' (total parts) c') ∧ KidsIn w' (a'.map fun g => ⟨g, 0, none⟩) c' (parts.flatMap Part.kids) ∧ Keeps [] w w' ∧ (∀ g, a' = some g → w.heap.size ≤ g) := by
  obtain ⟨i0, hi, hz0, hz1, hz2⟩ := info_parts infoRe
  have Hi := Lib.hid hi
  have Hz0 := Lib.hid hz0
  have Hz1 := Lib.hid hz1
  have Hz2 := Lib.hid hz2
  have HG := Lib.hid hg
  have HK := Lib.hid hk
  have HTT := Lib.hid (total_take parts)
  have HTL := Lib.hid (total_le parts)
  clear hi hz0 hz1 hz2 hg hk
  obtain ⟨TOT, hTOT⟩ : ∃ t, t = total parts := ⟨_, rfl⟩
  rw [← hTOT] at hb ⊢
  have HTOT := Lib.hid hTOT
  clear hTOT
  go_enter Tryz.func81, Tryz.ntmps81
  go_wp2
  go_loop [3, 11] (fun s i => ∃ k n : Nat, k ≤ parts.length ∧ i = .int .i64 k ∧ s = .int .i64 n ∧ n = total (parts.take k)) (fun _ i => parts.length - (intOf i).toNat)
  case atStart => exact ⟨0, 0, Nat.zero_le _, rfl, rfl, rfl⟩
  case round =>
    obtain ⟨k, n, hkk, rfl, rfl, hn⟩ := hrel
    have HN := Lib.hid hn
    clear hn
    by_cases hlt : k < parts.length
    · have hc := HG.out k hlt
      have htt := HTT.out k hlt
      have htl := HTL.out (k + 1)
      rw [← HTOT.out] at htl
      have hle := (HK.out parts[k] (List.getElem_mem hlt)).nodes.le
      rw [← HN.out] at htt
      generalize parts[k] = p at *
      obtain ⟨ka, kc, kids⟩ := p
      simp only [Part.val] at hc hle htt
      have HT2 := Lib.hid htt
      have hb2 : n + kids.length ≤ 1000000 := by omega
      clear htt htl
      go_wp2
      go_round
      case rel => exact ⟨k + 1, n + kids.length, by omega, by go_num, by go_num, HT2.out.symm⟩
      case measure => simp [intOf]; omega
    · obtain rfl : k = parts.length := by omega
      have hn2 : n = TOT := by rw [HN.out, List.take_length, HTOT.out]
      subst hn2
      have HGR := Lib.hid (grow_any n w hb)
      go_wp2_with fail
      refine Calls.mono HGR.out ?_
      rintro e w2 ⟨a2, c2, rfl, hsl, hk2, ha2⟩
      have HSL := Lib.hid hsl
      have HK2 := Lib.hid hk2
      have HA2 := Lib.hid ha2
      simp only [sv]
      clear hsl hk2 ha2 HGR HTT
      go_wp2
      go_loopw [6, 27] (fun v i wr => ∃ (k : Nat) (a' : Option Nat) (c' : Nat), k ≤ parts.length ∧ i = .int .i64 k ∧ v = sv a' (total (parts.take k)) c' ∧ SliceAt wr 64 8 a' (total (parts.take k)) c' (flatK ((parts.take k).flatMap Part.kids)) ∧ Keeps [] w wr ∧ (∀ g, a' = some g → w.heap.size ≤ g)) (fun _ i _ => parts.length - (intOf i).toNat)
      case atStart => exact ⟨0, a2, c2, Nat.zero_le _, rfl, rfl, HSL.out, HK2.out, HA2.out⟩
      case round =>
        obtain ⟨k, a', c', hkk, rfl, rfl, hsl, hkp, ha⟩ := hrel
        have HS := Lib.hid hsl
        have HKP := Lib.hid hkp
        have HA := Lib.hid ha
        clear hsl ha HSL HK2 HA2
        by_cases hlt : k < parts.length
        · have hc := hkp.cell (HG.out k hlt) (by simp)
          have htt := total_take parts k hlt
          have htl := HTL.out (k + 1)
          rw [← HTOT.out] at htl
          have hks := (HK.out parts[k] (List.getElem_mem hlt)).keep hkp
          have hfl : (parts.take (k + 1)).flatMap Part.kids = (parts.take k).flatMap Part.kids ++ parts[k].kids := by
            rw [List.take_succ_eq_append_getElem hlt, List.flatMap_append]; simp
          generalize parts[k] = p at *
          obtain ⟨ka, kc, kids⟩ := p
          simp only [Part.val] at hc htt hks hfl
          have hle := hks.nodes.le
          obtain ⟨m, hm⟩ : ∃ m, m = total (parts.take k) := ⟨_, rfl⟩
          rw [← hm] at htt HS ⊢
          have HKS := Lib.hid hks
          have HFL := Lib.hid hfl
          have HM := Lib.hid hm
          have HTK := Lib.hid htt
          have hb2 : m + kids.length ≤ 1000000 := by omega
          clear htt htl hks hfl hkp hm
          simp only [sv]
          go_wp2_with (at_builtin; refine wpList_append_any rfl (.tmp 31) (.tmp 32) 62 rfl 64 i0 _ 8 96 Tryz.underlying62 Hi.out Hz0.out Hz1.out Hz2.out rfl (by decide) a' m c' _ rfl HS.out ka kids.length kc (flatK kids) rfl (flatK_length kids) HKS.out.nodes.src (flatK_one kids) (by omega) (by omega) ?hk)
          case hk =>
            intro a3 c3 w3 hsl3 hk3 ha3
            have HS3 := Lib.hid hsl3
            have HK3 := Lib.hid (show Keeps [] w w3 from HKP.out.after hk3 (by intro x hx; simp at hx; exact .inr (HA.out x hx)))
            have HA3 := Lib.hid (show ∀ g, a3 = some g → w.heap.size ≤ g by
              intro g hg
              rcases ha3 with h | ⟨g', h, h2⟩
              · exact HA.out g (by rw [← h, hg])
              · rw [hg] at h; cases h; have := HKP.out.size; omega)
            clear hsl3 hk3 ha3
            go_wp2
            go_roundw
            case rel => exact ⟨k + 1, a3, c3, by omega, by go_num, by rw [HTK.out]; rfl, by rw [HTK.out, HFL.out, flatK_append]; exact HS3.out, HK3.out, HA3.out⟩
            case measure => simp [intOf]; omega
        · obtain rfl : k = parts.length := by omega
          have hn2 : total (parts.take parts.length) = n := by rw [List.take_length, HTOT.out]
          rw [hn2, List.take_length] at HS
          rw [hn2]
          simp only [sv]
          clear hkp hn2
          go_wp2
          go_ret
          exact ⟨a', c', rfl, ⟨NodesIn.of_sl HS.out, fun x hx => by
            obtain ⟨p, hp, hx⟩ := List.mem_flatMap.1 hx
            exact (((HK.out p hp).keep HKP.out).all x hx)⟩, HKP.out, HA.out⟩

/-- What rules.nary returns. -/
def naryT (op : Int) : List Tree → Tree
  | [x] => x
  | l => .node op [] l 0 0 0 0 false

set_option maxRecDepth 100000 in
set_option maxHeartbeats 1000000 in
theorem nary_any (op : Int) (ka : Option Addr) (kc : Nat) (kids : List MRe) (w : World) (hk : KidsIn w ka kc kids) :
    Calls Tryz.prog 68 #[.int .i64 op, .slice ka kids.length kc] w fun e w' => ∃ m : MRe, e = .returned m.val ∧ m.tree = naryT op (MRe.trees kids) ∧ m.OK w' ∧ Keeps [] w w' ∧ ∀ b ∈ m.blocks, b ∈ blockIf kids.length ka ++ MRe.blocksL kids := by
  have HK := Lib.hid hk
  clear hk
  by_cases h1 : kids.length = 1
  · obtain ⟨b, off, rfl, hb, hx⟩ := HK.out.nodes.kid (by omega)
    have hx0 := hx 0 (by omega)
    have hok := HK.out.all kids[0] (List.getElem_mem (by omega))
    have hblk : ∀ q ∈ kids[0].blocks, q ∈ blockIf kids.length (some ⟨b, off, none⟩) ++ MRe.blocksL kids := fun x hx => List.mem_append_right _ (MRe.mem_blocksL (List.getElem_mem _) hx)
    have HBLK := Lib.hid hblk
    clear hblk
    have htr : naryT op (MRe.trees kids) = kids[0].tree := by
      match kids, h1 with
      | [x], _ => rfl
    have HTR := Lib.hid htr
    have HOK := Lib.hid hok
    generalize kids[0] = m at *
    obtain ⟨m0, hm0⟩ : ∃ m0, m0 = m := ⟨_, rfl⟩
    rw [← hm0] at HTR HOK HBLK
    have HM := Lib.hid hm0
    clear hm0
    obtain ⟨op1, sa1, sc1, set1, ka1, kc1, kids1, mn1, mx1, mode1, n1, neg1⟩ := m
    have g := hx0.node
    rw [Nat.zero_mul, Nat.add_zero] at g
    have c0 := g.c0
    have c1 := g.c1
    have c2 := g.c2
    have c3 := g.c3
    have c4 := g.c4
    have c5 := g.c5
    have c6 := g.c6
    have c7 := g.c7
    clear g hx0 htr hok hx
    have hlen : (kids.length : Int) = 1 := by omega
    go_enter Tryz.func68, Tryz.ntmps68
    go_upto_region 2 with fail
    go_wp2_with (refine wpList_store_row rfl 64 (.tmp 4) (.tmp 10) rfl w.heap.size #[.int .i64 op1, .slice sa1 set1.length sc1, .slice ka1 kids1.length kc1, .int .i64 mn1, .int .i64 mx1, .int .i64 mode1, .int .i64 n1, .bool neg1] rfl rfl 64 #[.int .i64 0, .slice none 0 0, .slice none 0 0, .int .i64 0, .int .i64 0, .int .i64 0, .int .i64 0, .bool false] (heap_alloc_new w _) sizeRe rfl (row8_one _ _ _ _ _ _ _ _ _ _ _ _) ?_)
    have hR := setRow_heap (w.alloc (.cells #[.int .i64 0, .slice none 0 0, .slice none 0 0, .int .i64 0, .int .i64 0, .int .i64 0, .int .i64 0, .bool false] 64)) w.heap.size _ #[.int .i64 op1, .slice sa1 set1.length sc1, .slice ka1 kids1.length kc1, .int .i64 mn1, .int .i64 mx1, .int .i64 mode1, .int .i64 n1, .bool neg1] 64 (0, 0) (heap_alloc_new w _)
    refine bodyPost_ret (results_cell_row rfl _ _ w.heap.size 64 #[.int .i64 op1, .slice sa1 set1.length sc1, .slice ka1 kids1.length kc1, .int .i64 mn1, .int .i64 mx1, .int .i64 mode1, .int .i64 n1, .bool neg1] (0, 0) _ rfl hR Tryz.underlying64 rfl sizeRe) rfl ?_
    have kk : Keeps [] w ((w.alloc (.cells #[.int .i64 0, .slice none 0 0, .slice none 0 0, .int .i64 0, .int .i64 0, .int .i64 0, .int .i64 0, .bool false] 64)).setRow w.heap.size #[.int .i64 op1, .slice sa1 set1.length sc1, .slice ka1 kids1.length kc1, .int .i64 mn1, .int .i64 mx1, .int .i64 mode1, .int .i64 n1, .bool neg1]) := ((Keeps.refl [] w).alloc _).setRow (.inr (Nat.le_refl _)) _
    refine ⟨m0, by rw [HM.out]; rfl, by rw [HTR.out], HOK.out.keep kk, kk, HBLK.out⟩
  · have htr : naryT op (MRe.trees kids) = .node op [] (MRe.trees kids) 0 0 0 0 false := by
      match kids, h1 with
      | [], _ => rfl
      | x :: y :: r, _ => rfl
    have HTR := Lib.hid htr
    clear htr
    have hcap := HK.out.nodes.cap
    have hle := HK.out.nodes.le
    unfold maxLen at hcap
    go_enter Tryz.func68, Tryz.ntmps68
    go_wp2
    refine bodyPost_ret (results_cell_row rfl _ _ w.heap.size 64 #[.int .i64 op, .slice none 0 0, .slice ka kids.length kc, .int .i64 0, .int .i64 0, .int .i64 0, .int .i64 0, .bool false] (0, 0) _ rfl (heap_alloc_new w _) Tryz.underlying64 rfl sizeRe) rfl ?_
    exact ⟨.node op none 0 [] ka kc kids 0 0 0 0 false, rfl, by rw [HTR.out]; rfl, .of (SpansIn.nil _) (HK.out.keep (Keeps.a1 _ _)), Keeps.a1 _ _, fun b hb => by simpa [MRe.blocks, blockIf_nil] using hb⟩

/-- What rules.swap returns. -/
def swapT (op : Int) (kids : List Tree) (i j : Nat) (l : List Tree) : Tree := naryT op (kids.take i ++ (l ++ kids.drop j))

set_option maxRecDepth 100000 in
set_option maxHeartbeats 4000000 in
theorem swap_any (m : MRe) (i j : Nat) (la : Option Addr) (lc : Nat) (l : List MRe) (w : World) (k1 : m.OK w) (hl : KidsIn w la lc l) (hij : i ≤ j) (hj : j ≤ m.kids.length) (h0 : 0 < m.kids.length) (hb : m.kids.length + l.length ≤ 1000000) :
    Calls Tryz.prog 61 #[m.val, .int .i64 i, .int .i64 j, .slice la l.length lc] w fun e w' => ∃ r : MRe, e = .returned (.tuple #[r.val, .bool true]) ∧ r.tree = swapT m.tree.op m.tree.kids i j (MRe.trees l) ∧ r.OK w' ∧ Keeps [] w w' ∧ From w.heap.size (m.blocks ++ MRe.blocksL l) r.blocks := by
  obtain ⟨op, sa, sc, set, ka, kc, kids, mn, mx, mode, n, neg⟩ := m
  simp only [MRe.kids] at hj h0 hb
  obtain ⟨b, off, rfl, hbb, _⟩ := k1.nodes.kid h0
  have hcap := k1.nodes.cap
  have hle := k1.nodes.le
  unfold maxLen at hcap
  have hd := k1.nodes.drop j hj
  have HK := Lib.hid k1.kids
  have HL := Lib.hid hl
  simp only [MRe.val]
  have hs1 : ∀ W : World, (Instr.sliceAt 62 (.slice (some ⟨b, off, none⟩) kids.length kc) none (some (.int .i64 i)) none).run Tryz.prog W = .ok (.slice (some ⟨b, off, none⟩) i kc) W := by
    intro W
    have q2 : (i : Int) ≤ kc := by omega
    simp [go_sem, q2]
  have hs2 : ∀ W : World, (Instr.sliceAt 62 (.slice (some ⟨b, off, none⟩) kids.length kc) (some (.int .i64 j)) none none).run Tryz.prog W = .ok (.slice (if kc = j then some ⟨b, off, none⟩ else some ⟨b, off + j * 8, none⟩) (kids.length - j) (kc - j)) W := by
    intro W
    have q1 : (j : Int) ≤ kids.length := by omega
    simp [go_sem, q1]
  obtain ⟨ja, hja⟩ : ∃ ja, ja = (if kc = j then some (⟨b, off, none⟩ : Addr) else some ⟨b, off + j * 8, none⟩) := ⟨_, rfl⟩
  rw [← hja] at hd hs2
  obtain ⟨parts, hparts⟩ : ∃ parts : List Part, parts = [⟨some ⟨b, off, none⟩, kc, kids.take i⟩, ⟨la, lc, l⟩, ⟨ja, kc - j, kids.drop j⟩] := ⟨_, rfl⟩
  have hpk : parts.flatMap Part.kids = kids.take i ++ (l ++ kids.drop j) := by rw [hparts]; simp
  have hpt : total parts ≤ 1000000 := by unfold total; rw [hpk]; simp only [List.length_append, List.length_take, List.length_drop]; omega
  have hpo : ∀ p ∈ parts, KidsIn w p.ka p.kc p.kids := by
    intro p hp
    rw [hparts] at hp
    simp only [List.mem_cons, List.not_mem_nil, or_false] at hp
    rcases hp with rfl | rfl | rfl
    · exact ⟨k1.nodes.take i, fun x hx => k1.kid (List.mem_of_mem_take hx)⟩
    · exact hl
    · exact ⟨hd, fun x hx => k1.kid (List.mem_of_mem_drop hx)⟩
  have hCON : ∀ X : World, Keeps [] w X → Calls Tryz.prog 81 #[.slice (some ⟨X.heap.size, 0, none⟩) 3 3] (X.alloc (.cells #[.slice (some ⟨b, off, none⟩) i kc, .slice la l.length lc, .slice ja (kids.length - j) (kc - j)] 62)).drew fun e w' => ∃ a' c', e = .returned (sv a' (total parts) c') ∧ KidsIn w' (a'.map fun g => ⟨g, 0, none⟩) c' (kids.take i ++ (l ++ kids.drop j)) ∧ Keeps [] X w' ∧ (∀ g, a' = some g → X.heap.size ≤ g) := by
    intro X hX
    have hkk : Keeps [] X (X.alloc (.cells #[.slice (some ⟨b, off, none⟩) i kc, .slice la l.length lc, .slice ja (kids.length - j) (kc - j)] 62)).drew := (Keeps.a1 X _).drew
    have h := concat_any X.heap.size parts (X.alloc (.cells #[.slice (some ⟨b, off, none⟩) i kc, .slice la l.length lc, .slice ja (kids.length - j) (kc - j)] 62)).drew ?_ (fun p hp => (hpo p hp).keep (hX.trans hkk)) hpt (by rw [hparts]; simp)
    · rw [hpk] at h
      rw [show parts.length = 3 by rw [hparts]; rfl] at h
      exact h.mono fun e w' ⟨a', c', he, hk, hkp, hf⟩ => ⟨a', c', he, hk, hkk.trans hkp, fun g hg => Nat.le_trans hkk.size (hf g hg)⟩
    · intro q hq
      subst hparts
      have hc := fun q => cell_new X #[.slice (some ⟨b, off, none⟩) i kc, .slice la l.length lc, .slice ja (kids.length - j) (kc - j)] 62 q
      simp only [List.length_cons, List.length_nil] at hq
      show (X.alloc _).cell? _ = _
      rw [hc]
      obtain rfl | rfl | rfl : q = 0 ∨ q = 1 ∨ q = 2 := by omega
      · have : (kids.take i).length = i := by rw [List.length_take]; omega
        simp [Part.val, this]
      · simp [Part.val]
      · simp [Part.val]
  have HCON := Lib.hid hCON
  have htr : swapT op (MRe.trees kids) i j (MRe.trees l) = naryT op (MRe.trees (kids.take i ++ (l ++ kids.drop j))) := by
    unfold swapT
    congr 1
    simp [MRe.trees_eq]
  have HTR := Lib.hid htr
  have hbk : ∀ q ∈ MRe.blocksL (kids.take i ++ (l ++ kids.drop j)), q ∈ (MRe.node op sa sc set (some ⟨b, off, none⟩) kc kids mn mx mode n neg).blocks ++ MRe.blocksL l := fun x hx => by
    obtain ⟨y, hy, hxy⟩ := MRe.blocksL_mem hx
    rcases List.mem_append.1 hy with hy | hy
    · exact List.mem_append_left _ (blocks_kid (List.mem_of_mem_take hy) x hxy)
    · rcases List.mem_append.1 hy with hy | hy
      · exact List.mem_append_right _ (MRe.mem_blocksL hy hxy)
      · exact List.mem_append_left _ (blocks_kid (List.mem_of_mem_drop hy) x hxy)
  have hlt : ∀ q ∈ (MRe.node op sa sc set (some ⟨b, off, none⟩) kc kids mn mx mode n neg).blocks ++ MRe.blocksL l, q < w.heap.size := fun x hx => by
    rcases List.mem_append.1 hx with hx | hx
    · exact k1.block_lt x hx
    · exact hl.block_lt x hx
  have HBK := Lib.hid hbk
  have HLT := Lib.hid hlt
  clear hbk hlt
  have hpt2 : total parts = (kids.take i ++ (l ++ kids.drop j)).length := by unfold total; rw [hpk]
  rw [hpt2] at HCON
  clear hCON hpo hpk hpt hpt2 hparts htr hd k1 hl hja
  generalize kids.take i ++ (l ++ kids.drop j) = ks at *
  obtain ⟨src, hsrc⟩ : ∃ src, src = (MRe.node op sa sc set (some ⟨b, off, none⟩) kc kids mn mx mode n neg).blocks ++ MRe.blocksL l := ⟨_, rfl⟩
  rw [← hsrc] at HBK HLT ⊢
  clear hsrc
  go_enter Tryz.func61, Tryz.ntmps61
  go_upto_region 1 with fail
  have x0 := (Keeps.a1 (w.alloc (.cells #[.int .i64 op, .slice sa set.length sc, .slice (some ⟨b, off, none⟩) kids.length kc, .int .i64 mn, .int .i64 mx, .int .i64 mode, .int .i64 n, .bool neg] 64)) (.cells #[.int .i64 0, .slice none 0 0, .slice none 0 0, .int .i64 0, .int .i64 0, .int .i64 0, .int .i64 0, .bool false] 64)).cell (cell_new w #[.int .i64 op, .slice sa set.length sc, .slice (some ⟨b, off, none⟩) kids.length kc, .int .i64 mn, .int .i64 mx, .int .i64 mode, .int .i64 n, .bool neg] 64 0) (by simp)
  have x2 := (Keeps.a1 (w.alloc (.cells #[.int .i64 op, .slice sa set.length sc, .slice (some ⟨b, off, none⟩) kids.length kc, .int .i64 mn, .int .i64 mx, .int .i64 mode, .int .i64 n, .bool neg] 64)) (.cells #[.int .i64 0, .slice none 0 0, .slice none 0 0, .int .i64 0, .int .i64 0, .int .i64 0, .int .i64 0, .bool false] 64)).cell (cell_new w #[.int .i64 op, .slice sa set.length sc, .slice (some ⟨b, off, none⟩) kids.length kc, .int .i64 mn, .int .i64 mx, .int .i64 mode, .int .i64 n, .bool neg] 64 2) (by simp)
  have hz := heap_alloc2_new w (.cells #[.int .i64 op, .slice sa set.length sc, .slice (some ⟨b, off, none⟩) kids.length kc, .int .i64 mn, .int .i64 mx, .int .i64 mode, .int .i64 n, .bool neg] 64) (.cells #[.int .i64 0, .slice none 0 0, .slice none 0 0, .int .i64 0, .int .i64 0, .int .i64 0, .int .i64 0, .bool false] 64)
  have hkX := Keeps.a2 w (.cells #[.int .i64 op, .slice sa set.length sc, .slice (some ⟨b, off, none⟩) kids.length kc, .int .i64 mn, .int .i64 mx, .int .i64 mode, .int .i64 n, .bool neg] 64) (.cells #[.int .i64 0, .slice none 0 0, .slice none 0 0, .int .i64 0, .int .i64 0, .int .i64 0, .int .i64 0, .bool false] 64)
  obtain ⟨B, hB⟩ : ∃ B, B = w.heap.size := ⟨_, rfl⟩
  rw [← hB] at x0 x2 hz ⊢
  have hBw : w.heap.size = B := by omega
  have hXs : B + 2 ≤ ((w.alloc (.cells #[.int .i64 op, .slice sa set.length sc, .slice (some ⟨b, off, none⟩) kids.length kc, .int .i64 mn, .int .i64 mx, .int .i64 mode, .int .i64 n, .bool neg] 64)).alloc (.cells #[.int .i64 0, .slice none 0 0, .slice none 0 0, .int .i64 0, .int .i64 0, .int .i64 0, .int .i64 0, .bool false] 64)).heap.size := by simp; omega
  generalize (w.alloc (.cells #[.int .i64 op, .slice sa set.length sc, .slice (some ⟨b, off, none⟩) kids.length kc, .int .i64 mn, .int .i64 mx, .int .i64 mode, .int .i64 n, .bool neg] 64)).alloc (.cells #[.int .i64 0, .slice none 0 0, .slice none 0 0, .int .i64 0, .int .i64 0, .int .i64 0, .int .i64 0, .bool false] 64) = X at *
  replace x0 : X.cell? ⟨B, 0, none⟩ = some (.int .i64 op) := x0
  replace x2 : X.cell? ⟨B, 2, none⟩ = some (.slice (some ⟨b, off, none⟩) kids.length kc) := x2
  have HZ := Lib.hid hz
  have HX := Lib.hid hkX
  have HBW := Lib.hid hBw
  clear hz hkX hB hBw
  go_region_held3 (fun w' => w'.cell? ⟨B, 0, none⟩ = some (.int .i64 op) ∧ w'.cell? ⟨B, 2, none⟩ = some (.slice (some ⟨b, off, none⟩) kids.length kc))
    (with_reducible first | exact ⟨((Keeps.refl [] X).drew).cell x0 (by simp), ((Keeps.refl [] X).drew).cell x2 (by simp)⟩ | exact ⟨E1.out.cell x0 (by simp), E1.out.cell x2 (by simp)⟩ | exact ⟨E2.out.cell x0 (by simp), E2.out.cell x2 (by simp)⟩ | exact ⟨((Keeps.refl [] X).alloc _).drew.cell x0 (by simp), ((Keeps.refl [] X).alloc _).drew.cell x2 (by simp)⟩ | exact ⟨E3.out.cell x0 (by simp), E3.out.cell x2 (by simp)⟩ | fail)
    (first
      | (go_at_call 81; refine Calls.mono (HCON.out X HX.out) ?_; rintro e w3 ⟨a3, c3, rfl, hks, hk3, hf3⟩; have E1 := Lib.hid hk3; have HKS := Lib.hid hks; have HF3 := Lib.hid hf3; simp only [sv]; clear hks hk3 hf3)
      | (go_at_call 68; refine Calls.mono (nary_any op (a3.map fun g => ⟨g, 0, none⟩) c3 ks w3 HKS.out) ?_; rintro e w4 ⟨r, rfl, hrt, hro, hk4, hrb⟩; have E2 := Lib.hid (E1.out.trans hk4); have HRT := Lib.hid hrt; have HRO := Lib.hid hro; have HRB := Lib.hid hrb; have HZ4 := Lib.hid ((E1.out.trans hk4).heap HZ.out (by simp)); obtain ⟨r0, hr0⟩ : ∃ r0, r0 = r := ⟨_, rfl⟩; rw [← hr0] at HRT HRO HRB; have HR0 := Lib.hid hr0; clear hrt hro hk4 hr0 hrb; obtain ⟨op9, sa9, sc9, set9, ka9, kc9, kids9, mn9, mx9, mode9, n9, neg9⟩ := r; simp only [MRe.val]; obtain ⟨z0, z1, z2, z3, z4, z5, z6, z7, zf⟩ := zero_cells HZ4.out; have E3 := Lib.hid (show Keeps [B + 1] X (set8 w4 (B + 1) (.int .i64 op9) (.slice sa9 set9.length sc9) (.slice ka9 kids9.length kc9) (.int .i64 mn9) (.int .i64 mx9) (.int .i64 mode9) (.int .i64 n9) (.bool neg9)) from (E2.out.mono (by simp)).trans (set8_keeps _ _ _ _ _ _ _ _ _ _))))
  have hR := set8_heap HZ4.out (.int .i64 op9) (.slice sa9 set9.length sc9) (.slice ka9 kids9.length kc9) (.int .i64 mn9) (.int .i64 mx9) (.int .i64 mode9) (.int .i64 n9) (.bool neg9)
  have hro : From w.heap.size src r0.blocks := fun x hx => by
    rcases List.mem_append.1 (HRB.out x hx) with h | h
    · have := (Fresh.blockIf_map HF3.out) x h
      rw [HBW.out]
      exact .inr (by omega)
    · exact .inl (HBK.out x h)
  have hnb : ∀ x ∈ r0.blocks, x ∉ [B + 1] := fun x hx => by
    have hbw := HBW.out
    rcases List.mem_append.1 (HRB.out x hx) with h | h
    · have := (Fresh.blockIf_map HF3.out) x h
      simp; omega
    · have := HLT.out x (HBK.out x h)
      simp; omega
  have hok := HRO.out.keepS (set8_keeps w4 (B + 1) (.int .i64 op9) (.slice sa9 set9.length sc9) (.slice ka9 kids9.length kc9) (.int .i64 mn9) (.int .i64 mx9) (.int .i64 mode9) (.int .i64 n9) (.bool neg9)) hnb
  have hke := HX.out.after E3.out (by intro x hx; simp at hx; subst hx; exact .inr (by rw [HBW.out]; omega))
  have HR := Lib.hid hR
  have HOK := Lib.hid hok
  have HKE := Lib.hid hke
  have HFR := Lib.hid hro
  clear hR hok hke hro hnb z0 z1 z2 z3 z4 z5 z6 z7 zf
  go_wp2
  refine bodyPost_ret (results_row_tmp rfl _ _ (B + 1) 64 #[.int .i64 op9, .slice sa9 set9.length sc9, .slice ka9 kids9.length kc9, .int .i64 mn9, .int .i64 mx9, .int .i64 mode9, .int .i64 n9, .bool neg9] (0, 0) _ rfl HR.out Tryz.underlying64 rfl sizeRe) rfl ?_
  refine ⟨r0, by rw [HR0.out]; rfl, by rw [HRT.out]; exact HTR.out.symm, HOK.out, HKE.out, HFR.out⟩

end Go.Proofs.YtgdmkddegcecaaaGreat
