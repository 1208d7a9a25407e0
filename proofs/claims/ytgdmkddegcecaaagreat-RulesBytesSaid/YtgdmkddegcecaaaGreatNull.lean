/- ast.Nullable over trees in memory. Conditions: the tree lies in memory. -/
import Derived.Test.YtgdmkddegcecaaaGreatCompare
namespace Go.Proofs.YtgdmkddegcecaaaGreat
open Go.RowKit

mutual
/-- What ast.Nullable returns. -/
def nullP : Tree → Bool
  | .node op _ kids mn _ _ _ _ =>
    if op = 0 ∨ op = 6 ∨ op = 7 ∨ op = 8 ∨ op = 11 then true
    else if op = 2 then nullAll kids
    else if op = 4 ∧ mn = 0 then true
    else if op = 4 ∨ op = 3 ∨ op = 10 ∨ op = 5 ∨ op = 9 then nullAny kids
    else false
def nullAll : List Tree → Bool
  | [] => true
  | k :: ks => nullP k && nullAll ks
def nullAny : List Tree → Bool
  | [] => false
  | k :: ks => nullP k || nullAny ks
end

set_option maxHeartbeats 8000000 in
theorem nullWalk_any (m : MRe) : ∀ (b o c : Nat) (w : World), At8 w b o m → m.OK w → w.cell? ⟨c, 0, none⟩ = some (.func (Fn.func 87) #[] #[.pointer (some ⟨c, 0, none⟩)]) →
    Calls Tryz.prog 87 #[.pointer (some ⟨b, o, none⟩), .pointer (some ⟨c, 0, none⟩)] w fun e w' => e = .returned (.bool (nullP m.tree)) ∧ Keeps [] w w' := by
  induction m using MRe.induct with
  | h op sa sc set ka kc kids mn mx mode n neg ih =>
    intro b o c w h1 k1 hc
    have a0 := h1.node.c0
    have a2 := h1.node.c2
    have a3 := h1.node.c3
    have hn1 := k1.nodes.le
    have hN1 := k1.nodes.cap
    unfold maxLen at hN1
    have HK1 := Lib.hid k1.kids
    have HI := Lib.hid ih
    have hT : nullP (MRe.node op sa sc set ka kc kids mn mx mode n neg).tree = nullP (.node op set (MRe.trees kids) mn mx mode n neg) := rfl
    rw [hT]
    clear ih h1 k1 hT
    by_cases hA : op = 0 ∨ op = 6 ∨ op = 7 ∨ op = 8 ∨ op = 11
    · have hR : nullP (.node op set (MRe.trees kids) mn mx mode n neg) = true := by rw [nullP, if_pos hA]
      rw [hR]
      rcases hA with rfl | rfl | rfl | rfl | rfl
      all_goals
        go_enter Tryz.func87, Tryz.ntmps87
        go_wp2
        go_ret
        exact ⟨rfl, Keeps.refl _ _⟩
    · by_cases hB : op = 2
      · have hR : nullP (.node op set (MRe.trees kids) mn mx mode n neg) = nullAll (MRe.trees kids) := by rw [nullP, if_neg hA, if_pos hB]
        rw [hR]
        subst hB
        clear hA hR
        go_enter Tryz.func87, Tryz.ntmps87
        go_wp2
        go_loopw [23] (fun i wr => ∃ k : Nat, k ≤ kids.length ∧ i = .int .i64 k ∧ nullAll ((MRe.trees kids).drop k) = nullAll (MRe.trees kids) ∧ Keeps [] w wr) (fun i _ => kids.length - (intOf i).toNat)
        case atStart => exact ⟨0, Nat.zero_le _, rfl, rfl, Keeps.refl _ _⟩
        case round =>
          obtain ⟨k, hk, rfl, hl, hkp⟩ := hrel
          have HLL := Lib.hid hl
          have HK := Lib.hid hkp
          by_cases hlt : k < kids.length
          · obtain ⟨b', off, rfl, hb, hx⟩ := (HK1.out.keep hkp).nodes.kid (by omega)
            have x1 := hkp.cell a2 (by simp)
            have x3 := hkp.cell hc (by simp)
            have hc1 := (HK1.out.keep hkp).all kids[k] (List.getElem_mem hlt)
            have HCALL := Lib.hid (fun W (h : Keeps [] wr W) => HI.out kids[k] (List.getElem_mem hlt) b' (off + k * 8) c W ((hx k hlt).keep h) (hc1.keep h) (h.cell x3 (by simp)))
            have hd : nullAll (MRe.trees kids) = (nullP kids[k].tree && nullAll ((MRe.trees kids).drop (k + 1))) := by rw [← hl, trees_drop kids k hlt, nullAll]
            obtain ⟨q, hq⟩ : ∃ q, q = nullP kids[k].tree := ⟨_, rfl⟩
            rw [← hq] at hd HCALL
            have HD := Lib.hid hd
            clear hq hd hc1 hx hl hkp HI
            go_wp2
            go_region_held3 (fun w' => w'.cell? ⟨c, 0, none⟩ = some (.func (Fn.func 87) #[] #[.pointer (some ⟨c, 0, none⟩)]) ∧ w'.cell? ⟨b, o + 2, none⟩ = some (.slice (some ⟨b', off, none⟩) kids.length kc))
              (first | exact ⟨x3, x1⟩ | exact ⟨E1.out.cell x3 (by simp), E1.out.cell x1 (by simp)⟩)
              (first
                | (go_at_call 87; refine Calls.mono (HCALL.out _ ((Keeps.refl [] wr).drew)) ?_; rintro e w3 ⟨rfl, hk3⟩; have E1 := Lib.hid (((Keeps.refl [] wr).drew).trans hk3); clear hk3))
            have HK3 := Lib.hid (HK.out.trans E1.out)
            clear x1 x3 E1 HCALL
            cases q with
            | true =>
              have HDE := Lib.hid (HD.out.trans (Bool.true_and _))
              clear HD
              go_wp2
              go_roundw
              case rel => exact ⟨k + 1, by omega, by go_num, HDE.out.symm, HK3.out⟩
              case measure => simp [intOf]; omega
            | false =>
              have HDE := Lib.hid (HD.out.trans (Bool.false_and _))
              clear HD
              go_wp2
              go_ret
              exact ⟨by rw [HDE.out]; rfl, HK3.out⟩
          · obtain rfl : k = kids.length := by omega
            have h0 : nullAll (MRe.trees kids) = true := by rw [← hl, List.drop_of_length_le (by rw [MRe.trees_length]; omega)]; rfl
            have HH0 := Lib.hid h0
            clear hl hkp h0
            go_wp2
            go_ret
            exact ⟨by rw [HH0.out]; rfl, HK.out⟩
      · by_cases hC : op = 4 ∧ mn = 0
        · have hR : nullP (.node op set (MRe.trees kids) mn mx mode n neg) = true := by rw [nullP, if_neg hA, if_neg hB, if_pos hC]
          rw [hR]
          obtain ⟨rfl, rfl⟩ := hC
          go_enter Tryz.func87, Tryz.ntmps87
          go_wp2
          go_ret
          exact ⟨rfl, Keeps.refl _ _⟩
        · by_cases hD : op = 4 ∨ op = 3 ∨ op = 10 ∨ op = 5 ∨ op = 9
          · have hR : nullP (.node op set (MRe.trees kids) mn mx mode n neg) = nullAny (MRe.trees kids) := by rw [nullP, if_neg hA, if_neg hB, if_neg hC, if_pos hD]
            rw [hR]
            have hmn : op = 4 → ¬ mn = 0 := fun h h' => hC ⟨h, h'⟩
            clear hA hR hB hC
            rcases hD with rfl | rfl | rfl | rfl | rfl
            all_goals
              first | (have hmb : (mn == 0) = false := by simpa using hmn rfl) | skip
              clear hmn
              go_enter Tryz.func87, Tryz.ntmps87
              go_wp2
              go_loopw [53] (fun i wr => ∃ k : Nat, k ≤ kids.length ∧ i = .int .i64 k ∧ nullAny ((MRe.trees kids).drop k) = nullAny (MRe.trees kids) ∧ Keeps [] w wr) (fun i _ => kids.length - (intOf i).toNat)
              case atStart => exact ⟨0, Nat.zero_le _, rfl, rfl, Keeps.refl _ _⟩
              case round =>
                obtain ⟨k, hk, rfl, hl, hkp⟩ := hrel
                have HLL := Lib.hid hl
                have HK := Lib.hid hkp
                by_cases hlt : k < kids.length
                · obtain ⟨b', off, rfl, hb, hx⟩ := (HK1.out.keep hkp).nodes.kid (by omega)
                  have x1 := hkp.cell a2 (by simp)
                  have x3 := hkp.cell hc (by simp)
                  have hc1 := (HK1.out.keep hkp).all kids[k] (List.getElem_mem hlt)
                  have HCALL := Lib.hid (fun W (h : Keeps [] wr W) => HI.out kids[k] (List.getElem_mem hlt) b' (off + k * 8) c W ((hx k hlt).keep h) (hc1.keep h) (h.cell x3 (by simp)))
                  have hd : nullAny (MRe.trees kids) = (nullP kids[k].tree || nullAny ((MRe.trees kids).drop (k + 1))) := by rw [← hl, trees_drop kids k hlt, nullAny]
                  obtain ⟨q, hq⟩ : ∃ q, q = nullP kids[k].tree := ⟨_, rfl⟩
                  rw [← hq] at hd HCALL
                  have HD := Lib.hid hd
                  clear hq hd hc1 hx hl hkp HI
                  go_wp2
                  go_region_held3 (fun w' => w'.cell? ⟨c, 0, none⟩ = some (.func (Fn.func 87) #[] #[.pointer (some ⟨c, 0, none⟩)]) ∧ w'.cell? ⟨b, o + 2, none⟩ = some (.slice (some ⟨b', off, none⟩) kids.length kc))
                    (first | exact ⟨x3, x1⟩ | exact ⟨E1.out.cell x3 (by simp), E1.out.cell x1 (by simp)⟩)
                    (first
                      | (go_at_call 87; refine Calls.mono (HCALL.out _ ((Keeps.refl [] wr).drew)) ?_; rintro e w3 ⟨rfl, hk3⟩; have E1 := Lib.hid (((Keeps.refl [] wr).drew).trans hk3); clear hk3))
                  have HK3 := Lib.hid (HK.out.trans E1.out)
                  clear x1 x3 E1 HCALL
                  cases q with
                  | false =>
                    have HDE := Lib.hid (HD.out.trans (Bool.false_or _))
                    clear HD
                    go_wp2
                    go_roundw
                    case rel => exact ⟨k + 1, by omega, by go_num, HDE.out.symm, HK3.out⟩
                    case measure => simp [intOf]; omega
                  | true =>
                    have HDE := Lib.hid (HD.out.trans (Bool.true_or _))
                    clear HD
                    go_wp2
                    go_ret
                    exact ⟨by rw [HDE.out]; rfl, HK3.out⟩
                · obtain rfl : k = kids.length := by omega
                  have h0 : nullAny (MRe.trees kids) = false := by rw [← hl, List.drop_of_length_le (by rw [MRe.trees_length]; omega)]; rfl
                  have HH0 := Lib.hid h0
                  clear hl hkp h0
                  go_wp2
                  go_ret
                  exact ⟨by rw [HH0.out]; rfl, HK.out⟩
          · have hR : nullP (.node op set (MRe.trees kids) mn mx mode n neg) = false := by rw [nullP, if_neg hA, if_neg hB, if_neg hC, if_neg hD]
            rw [hR]
            simp only [not_or] at hA hD
            obtain ⟨n0, n6, n7, n8, n11⟩ := hA
            obtain ⟨n4, n3, n10, n5, n9⟩ := hD
            clear hR hC
            go_enter Tryz.func87, Tryz.ntmps87
            go_wp2
            go_ret
            exact ⟨rfl, Keeps.refl _ _⟩

set_option maxHeartbeats 400000 in
theorem null_any (m : MRe) (w : World) (k1 : m.OK w) :
    Calls Tryz.prog 74 #[m.val] w fun e w' => e = .returned (.bool (nullP m.tree)) ∧ Keeps [] w w' := by
  have HW := Lib.hid (nullWalk_any m)
  have HK1 := Lib.hid k1
  obtain ⟨r1, hr1⟩ : ∃ r, r = m := ⟨_, rfl⟩
  obtain ⟨op1, sa1, sc1, set1, ka1, kc1, kids1, mn1, mx1, mode1, n1, neg1⟩ := m
  simp only [MRe.val]
  have hmf : ∀ (fn : Fn) (first cap : Array Value) (w : World), (Instr.makeFunc fn first cap).run Tryz.prog w = .ok (.func fn first cap) w := fun _ _ _ _ => rfl
  rw [← hr1] at HW HK1 ⊢
  have R1 : r1.row = [.int .i64 op1, .slice sa1 set1.length sc1, .slice ka1 kids1.length kc1, .int .i64 mn1, .int .i64 mx1, .int .i64 mode1, .int .i64 n1, .bool neg1] := by rw [hr1]; rfl
  have HR1 := Lib.hid R1
  clear hr1 R1 k1
  go_enter Tryz.func74, Tryz.ntmps74
  go_wp2_with fail
  refine Calls.mono (HW.out w.heap.size 0 (w.heap.size + 1) _ ?_ ?_ ?_) ?_
  · exact At8.keep (At8.box HR1.out.symm) (Keeps.a1 _ _)
  · exact HK1.out.keep (Keeps.a2 w _ _)
  · simp
  rintro e w2 ⟨rfl, hk⟩
  have HK := Lib.hid ((Keeps.a2 w _ _).trans hk)
  clear hk
  go_wp2
  go_ret
  exact ⟨rfl, HK.out⟩

end Go.Proofs.YtgdmkddegcecaaaGreat
