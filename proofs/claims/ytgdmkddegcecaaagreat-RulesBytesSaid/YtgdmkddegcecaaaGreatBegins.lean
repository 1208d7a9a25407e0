/- rules.begins. Conditions: the tree and the spans lie in memory. -/
import Derived.Test.YtgdmkddegcecaaaGreatOverlap
namespace Go.Proofs.YtgdmkddegcecaaaGreat
open Go.RowKit

mutual
def beginsT (S : List (Int × Int)) : Tree → Bool
  | .node op set kids _ _ _ _ _ =>
    if op = 1 then overlapP set S
    else if op = 6 then decide (0 < S.length)
    else if op = 2 then beginsCat S kids
    else if op = 3 ∨ op = 10 ∨ op = 4 ∨ op = 5 ∨ op = 9 then beginsAny S kids
    else false
def beginsCat (S : List (Int × Int)) : List Tree → Bool
  | [] => false
  | k :: ks => beginsT S k || (nullP k && beginsCat S ks)
def beginsAny (S : List (Int × Int)) : List Tree → Bool
  | [] => false
  | k :: ks => beginsT S k || beginsAny S ks
end
theorem beginsAny_any (S : List (Int × Int)) (l : List Tree) : l.any (beginsT S) = beginsAny S l := by
  induction l with
  | nil => rfl
  | cons x xs ih => simp only [List.any_cons, beginsAny, ih]

theorem enters_begins1 : Enters 89 := enters_of Tryz.func89 (by kernel_rfl) rfl

set_option maxHeartbeats 400000 in
theorem begins1_of (m : MRe) (b : Bool) (g : Nat) (sa : Option Addr) (n sc : Nat) (w : World) (hg : w.cell? ⟨g, 0, none⟩ = some (.slice sa n sc)) (h : ∀ W, Keeps [] w W → Calls Tryz.prog 78 #[m.val, .slice sa n sc] W fun e w' => e = .returned (.bool b) ∧ Keeps [] W w') :
    Calls Tryz.prog 89 #[m.val, .pointer (some ⟨g, 0, none⟩)] w fun e w' => e = .returned (.bool b) ∧ Keeps [] w w' := by
  have HH := Lib.hid h
  clear h
  obtain ⟨op1, sa1, sc1, set1, ka1, kc1, kids1, mn1, mx1, mode1, n1, neg1⟩ := m
  simp only [MRe.val] at HH ⊢
  have hg' := (Keeps.a1 w (.cells #[.int .i64 op1, .slice sa1 set1.length sc1, .slice ka1 kids1.length kc1, .int .i64 mn1, .int .i64 mx1, .int .i64 mode1, .int .i64 n1, .bool neg1] 64)).cell hg (by simp)
  go_enter Tryz.func89, Tryz.ntmps89
  go_wp2_with fail
  refine Calls.mono (HH.out _ (Keeps.a1 w _)) ?_
  rintro e w2 ⟨rfl, hk⟩
  have HK := Lib.hid ((Keeps.a1 w _).trans hk)
  clear hk
  go_wp2
  go_ret
  exact ⟨rfl, HK.out⟩

set_option maxRecDepth 100000 in
set_option maxHeartbeats 8000000 in
theorem begins_any (sa' : Option Addr) (sc' : Nat) (S : List (Int × Int)) (m : MRe) : ∀ (w : World), m.OK w → SpansIn w sa' sc' S →
    Calls Tryz.prog 78 #[m.val, .slice sa' S.length sc'] w fun e w' => e = .returned (.bool (beginsT S m.tree)) ∧ Keeps [] w w' := by
  induction m using MRe.induct with
  | h op sa sc set ka kc kids mn mx mode n neg ih =>
    intro w k1 hS
    have hT : beginsT S (MRe.node op sa sc set ka kc kids mn mx mode n neg).tree = beginsT S (.node op set (MRe.trees kids) mn mx mode n neg) := rfl
    rw [hT]
    have HI := Lib.hid (fun k (hk : k ∈ kids) W (h : Keeps [] w W) => ih k hk W ((k1.kid hk).keep h) (hS.keep h))
    have HK := Lib.hid k1.kids
    have HSP := Lib.hid k1.spans
    have HS := Lib.hid hS
    have hcap := k1.nodes.cap
    have hle := k1.nodes.le
    unfold maxLen at hcap
    have HX := Lib.hid (Keeps.a2 w (.cells #[.int .i64 op, .slice sa set.length sc, .slice ka kids.length kc, .int .i64 mn, .int .i64 mx, .int .i64 mode, .int .i64 n, .bool neg] 64) (.cells #[.slice sa' S.length sc'] 61))
    clear ih k1 hT hS
    simp only [MRe.val]
    by_cases h1 : op = 1
    · have hR : beginsT S (.node op set (MRe.trees kids) mn mx mode n neg) = overlapP set S := by rw [beginsT, if_pos h1]
      rw [hR]
      subst h1
      clear hR
      go_enter Tryz.func78, Tryz.ntmps78
      go_wp2_with fail
      refine Calls.mono (overlap_any sa sa' sc sc' set S _ (HSP.out.keep HX.out) (HS.out.keep HX.out)) ?_
      rintro e w2 ⟨rfl, hk⟩
      have HK2 := Lib.hid (HX.out.trans hk)
      clear hk
      go_wp2
      go_ret
      exact ⟨rfl, HK2.out⟩
    · by_cases h6 : op = 6
      · have hR : beginsT S (.node op set (MRe.trees kids) mn mx mode n neg) = decide (0 < S.length) := by rw [beginsT, if_neg h1, if_pos h6]
        rw [hR]
        subst h6
        clear hR
        by_cases h0 : 0 < S.length
        · have h0i : (0 : Int) < (S.length : Int) := by omega
          go_enter Tryz.func78, Tryz.ntmps78
          go_wp2
          go_ret
          exact ⟨by simp [h0], HX.out⟩
        · have h0i : S.length = 0 := by omega
          go_enter Tryz.func78, Tryz.ntmps78
          go_wp2
          go_ret
          exact ⟨by simp [h0], Keeps.a2 w _ _⟩
      · by_cases h2 : op = 2
        · have hR : beginsT S (.node op set (MRe.trees kids) mn mx mode n neg) = beginsCat S (MRe.trees kids) := by rw [beginsT, if_neg h1, if_neg h6, if_pos h2]
          rw [hR]
          subst h2
          clear hR
          obtain ⟨B, hBe⟩ : ∃ B, B = w.heap.size := ⟨_, rfl⟩
          go_enter Tryz.func78, Tryz.ntmps78
          go_wp2
          have c0 : ((w.alloc (.cells #[.int .i64 2, .slice sa set.length sc, .slice ka kids.length kc, .int .i64 mn, .int .i64 mx, .int .i64 mode, .int .i64 n, .bool neg] 64)).alloc (.cells #[.slice sa' S.length sc'] 61)).cell? ⟨B + 1, 0, none⟩ = some (.slice sa' S.length sc') := by rw [hBe]; simp
          rw [← hBe]
          generalize (w.alloc (.cells #[.int .i64 2, .slice sa set.length sc, .slice ka kids.length kc, .int .i64 mn, .int .i64 mx, .int .i64 mode, .int .i64 n, .bool neg] 64)).alloc (.cells #[.slice sa' S.length sc'] 61) = X at *
          have HBE := Lib.hid hBe
          clear hBe
          go_loopw [25] (fun i wr => ∃ k : Nat, k ≤ kids.length ∧ i = .int .i64 k ∧ beginsCat S ((MRe.trees kids).drop k) = beginsCat S (MRe.trees kids) ∧ Keeps [] X wr) (fun i _ => kids.length - (intOf i).toNat)
          case atStart => exact ⟨0, Nat.zero_le _, rfl, rfl, Keeps.refl _ _⟩
          case round =>
            obtain ⟨k, hk, rfl, hl, hkp⟩ := hrel
            have HLL := Lib.hid hl
            have HKX := Lib.hid hkp
            have HKW := Lib.hid (HX.out.trans hkp)
            have x0 := hkp.cell c0 (by simp)
            by_cases hlt : k < kids.length
            · obtain ⟨b', off, rfl, hb, hx⟩ := (HK.out.keep HKW.out).nodes.kid (by omega)
              have hc1 := (HK.out.keep HKW.out).all kids[k] (List.getElem_mem hlt)
              have HCALL := Lib.hid (HI.out kids[k] (List.getElem_mem hlt))
              have HNL := Lib.hid (fun W (h : Keeps [] wr W) => null_any kids[k] W (hc1.keep h))
              have hd : beginsCat S (MRe.trees kids) = (beginsT S kids[k].tree || (nullP kids[k].tree && beginsCat S ((MRe.trees kids).drop (k + 1)))) := by rw [← hl, trees_drop kids k hlt, beginsCat]
              obtain ⟨q, hq⟩ : ∃ q, q = beginsT S kids[k].tree := ⟨_, rfl⟩
              obtain ⟨u, hu⟩ : ∃ u, u = nullP kids[k].tree := ⟨_, rfl⟩
              rw [← hq, ← hu] at hd
              rw [← hq] at HCALL
              rw [← hu] at HNL
              have HD := Lib.hid hd
              have hx0 := hx k hlt
              generalize kids[k] = k0 at *
              obtain ⟨op1, sa1, sc1, set1, ka1, kc1, kids1, mn1, mx1, mode1, n1, neg1⟩ := k0
              have g := hx0.node
              have d0 := g.c0
              have d1 := g.c1
              have d2 := g.c2
              have d3 := g.c3
              have d4 := g.c4
              have d5 := g.c5
              have d6 := g.c6
              have d7 := g.c7
              simp only [MRe.val] at HCALL HNL
              have y0 := (Keeps.a1 wr (.cells #[.int .i64 op1, .slice sa1 set1.length sc1, .slice ka1 kids1.length kc1, .int .i64 mn1, .int .i64 mx1, .int .i64 mode1, .int .i64 n1, .bool neg1] 64)).cell x0 (by simp)
              clear hq hu hd hc1 hx hl hkp HI hx0 g c0
              go_wp2_with fail
              refine Calls.mono (HCALL.out _ (HKW.out.trans (Keeps.a1 wr _))) ?_
              rintro e w3 ⟨rfl, hk3⟩
              have HK3 := Lib.hid ((Keeps.a1 wr (.cells #[.int .i64 op1, .slice sa1 set1.length sc1, .slice ka1 kids1.length kc1, .int .i64 mn1, .int .i64 mx1, .int .i64 mode1, .int .i64 n1, .bool neg1] 64)).trans hk3)
              have z : At8 w3 wr.heap.size 0 (.node op1 sa1 sc1 set1 ka1 kc1 kids1 mn1 mx1 mode1 n1 neg1) := At8.keep (At8.box rfl) hk3
              have g := z.node
              have e0 := g.c0
              have e1 := g.c1
              have e2 := g.c2
              have e3 := g.c3
              have e4 := g.c4
              have e5 := g.c5
              have e6 := g.c6
              have e7 := g.c7
              simp only [Nat.zero_add] at e1 e2 e3 e4 e5 e6 e7
              clear z g hk3 y0 x0 d0 d1 d2 d3 d4 d5 d6 d7
              cases q with
              | true =>
                have HDE := Lib.hid (HD.out.trans (Bool.true_or _))
                clear HD
                go_wp2
                go_ret
                exact ⟨by rw [HDE.out]; rfl, HKW.out.trans HK3.out⟩
              | false =>
                have HDE := Lib.hid (HD.out.trans (Bool.false_or _))
                clear HD
                go_wp2_with fail
                refine Calls.mono (HNL.out _ HK3.out) ?_
                rintro e w4 ⟨rfl, hk4⟩
                have HK4 := Lib.hid (HK3.out.trans hk4)
                clear hk4
                cases u with
                | true =>
                  have HDF := Lib.hid (HDE.out.trans (Bool.true_and _))
                  clear HDE
                  go_wp2
                  go_roundw
                  case rel => exact ⟨k + 1, by omega, by go_num, HDF.out.symm, HKX.out.trans HK4.out⟩
                  case measure => simp [intOf]; omega
                | false =>
                  have HDF := Lib.hid (HDE.out.trans (Bool.false_and _))
                  clear HDE
                  go_wp2
                  go_ret
                  exact ⟨by rw [HDF.out]; rfl, HKW.out.trans HK4.out⟩
            · obtain rfl : k = kids.length := by omega
              have h0 : beginsCat S (MRe.trees kids) = false := by rw [← hl, List.drop_of_length_le (by rw [MRe.trees_length]; omega)]; rfl
              have HH0 := Lib.hid h0
              clear hl hkp h0
              go_wp2
              go_ret
              exact ⟨by rw [HH0.out]; rfl, HKW.out⟩
        · by_cases hA : op = 3 ∨ op = 10 ∨ op = 4 ∨ op = 5 ∨ op = 9
          · have hR : beginsT S (.node op set (MRe.trees kids) mn mx mode n neg) = (MRe.trees kids).any (beginsT S) := by rw [beginsT, if_neg h1, if_neg h6, if_neg h2, if_pos hA, beginsAny_any]
            rw [hR]
            have hmf : ∀ (fn : Fn) (first cap : Array Value) (w : World), (Instr.makeFunc fn first cap).run Tryz.prog w = .ok (.func fn first cap) w := fun _ _ _ _ => rfl
            have HC := Lib.hid (fun W (g : Nat) (h : Keeps [] w W) (hg : W.cell? ⟨g, 0, none⟩ = some (.slice sa' S.length sc')) => containsFunc_any 89 #[.pointer (some ⟨g, 0, none⟩)] (beginsT S) ka kc kids W enters_begins1 (HK.out.keep h) fun k hk W' h' => begins1_of k _ g sa' S.length sc' W' (h'.cell hg (by simp)) fun W2 h2 => HI.out k hk W2 ((h.trans h').trans h2))
            obtain ⟨q, hq⟩ : ∃ q, q = (MRe.trees kids).any (beginsT S) := ⟨_, rfl⟩
            rw [← hq] at HC ⊢
            clear hR hq HI h1 h6 h2
            rcases hA with rfl | rfl | rfl | rfl | rfl
            all_goals
              go_enter Tryz.func78, Tryz.ntmps78
              go_wp2_with fail
              refine Calls.mono (HC.out _ (w.heap.size + 1) HX.out (by simp)) ?_
              rintro e w2 ⟨rfl, hk⟩
              have HK := Lib.hid (HX.out.trans hk)
              clear hk
              go_wp2
              go_ret
              exact ⟨rfl, HK.out⟩
          · have hR : beginsT S (.node op set (MRe.trees kids) mn mx mode n neg) = false := by rw [beginsT, if_neg h1, if_neg h6, if_neg h2, if_neg hA]
            rw [hR]
            simp only [not_or] at hA
            obtain ⟨n3, n10, n4, n5, n9⟩ := hA
            clear hR
            go_enter Tryz.func78, Tryz.ntmps78
            go_wp2
            go_ret
            exact ⟨rfl, HX.out⟩

end Go.Proofs.YtgdmkddegcecaaaGreat
