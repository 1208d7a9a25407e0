/- rules.overlap. Conditions: the spans lie in memory. -/
import Derived.Test.YtgdmkddegcecaaaGreatHead
import Derived.BigQuiet
namespace Go.Proofs.YtgdmkddegcecaaaGreat
open Go.RowKit

def overlapP : List (Int × Int) → List (Int × Int) → Bool
  | [], _ => false
  | _ :: _, [] => false
  | a :: ar, b :: br => if a.2 < b.1 then overlapP ar (b :: br) else if b.2 < a.1 then overlapP (a :: ar) br else true
termination_by a b => a.length + b.length

def lenOf : Value → Nat
  | .slice _ n _ => n
  | _ => 0

theorem SpansIn.tail {w : World} {b off sc : Nat} {x : Int × Int} {l : List (Int × Int)} (h : SpansIn w (some ⟨b, off, none⟩) sc (x :: l)) : SpansIn w (if sc = 1 then some ⟨b, off, none⟩ else some ⟨b, off + 2, none⟩) (sc - 1) l := by
  have hle := h.le
  have hcap := h.cap
  simp only [List.length_cons] at hle
  refine ⟨by omega, by omega, by split <;> simp, fun h0 => ?_⟩
  rw [if_neg (by omega)]
  obtain ⟨b', off', h1, hb, h2⟩ := h.at_ (by omega)
  cases h1
  refine ⟨b, off + 2, rfl, hb, fun i hi => ?_⟩
  have := h2 (i + 1) (by simp only [List.length_cons]; omega)
  rw [show off + 2 + i * 2 = off + (i + 1) * 2 by omega]
  exact this
theorem SpansIn.head {w : World} {sa : Option Addr} {sc : Nat} {x : Int × Int} {l : List (Int × Int)} (h : SpansIn w sa sc (x :: l)) : ∃ b off, sa = some ⟨b, off, none⟩ ∧ b < w.heap.size ∧ w.cell? ⟨b, off, none⟩ = some (.int .i64 x.1) ∧ w.cell? ⟨b, off + 1, none⟩ = some (.int .i64 x.2) := by
  obtain ⟨b, off, h1, hb, h2⟩ := h.at_ (by have := h.le; simp only [List.length_cons] at this; omega)
  have := h2 0 (by simp)
  rw [Nat.zero_mul, Nat.add_zero] at this
  exact ⟨b, off, h1, hb, this⟩

set_option maxRecDepth 100000 in
set_option maxHeartbeats 4000000 in
theorem overlap_any (aa ba : Option Addr) (ac bc : Nat) (A B : List (Int × Int)) (w : World) (ha : SpansIn w aa ac A) (hb : SpansIn w ba bc B) :
    Calls Tryz.prog 88 #[.slice aa A.length ac, .slice ba B.length bc] w fun e w' => e = .returned (.bool (overlapP A B)) ∧ Keeps [] w w' := by
  have HA := Lib.hid ha
  have HB := Lib.hid hb
  clear ha hb
  go_enter Tryz.func88, Tryz.ntmps88
  go_wp2
  go_loopw [0, 1] (fun x y wr => ∃ (aa' ba' : Option Addr) (ac' bc' : Nat) (A' B' : List (Int × Int)), x = .slice aa' A'.length ac' ∧ y = .slice ba' B'.length bc' ∧ SpansIn wr aa' ac' A' ∧ SpansIn wr ba' bc' B' ∧ overlapP A' B' = overlapP A B ∧ Keeps [] w wr) (fun x y _ => lenOf x + lenOf y)
  case atStart => exact ⟨aa, ba, ac, bc, A, B, rfl, rfl, HA.out, HB.out, rfl, Keeps.refl _ _⟩
  case round =>
    obtain ⟨aa', ba', ac', bc', A', B', rfl, rfl, hA, hB, ho, hk⟩ := hrel
    have HK := Lib.hid hk
    have HAC := Lib.hid hA.cap
    have HBC := Lib.hid hB.cap
    have HO := Lib.hid ho
    clear hk ho
    cases A' with
    | nil =>
      have HP := Lib.hid (show overlapP A B = false by rw [← HO.out, overlapP])
      clear hA hB
      go_wp2
      go_ret
      exact ⟨by rw [HP.out]; rfl, HK.out⟩
    | cons p A' =>
      cases B' with
      | nil =>
        have HP := Lib.hid (show overlapP A B = false by rw [← HO.out, overlapP])
        have hq : (0 : Int) < ((p :: A').length : Int) := by simp only [List.length_cons]; omega
        clear hA hB
        go_wp2
        go_ret
        exact ⟨by rw [HP.out]; rfl, HK.out⟩
      | cons q B' =>
        obtain ⟨b1, o1, rfl, hb1, p0, p1⟩ := hA.head
        obtain ⟨b2, o2, rfl, hb2, q0, q1⟩ := hB.head
        have HA' := Lib.hid hA
        have HB' := Lib.hid hB
        have HTA := Lib.hid hA.tail
        have HTB := Lib.hid hB.tail
        have hla := hA.le
        have hlb := hB.le
        have hca := hA.cap
        have hcb := hB.cap
        unfold maxLen at hca hcb
        obtain ⟨p0', p1'⟩ := p
        obtain ⟨q0', q1'⟩ := q
        simp only at p0 p1 q0 q1
        obtain ⟨n, hn⟩ : ∃ n, n = ((p0', p1') :: A').length := ⟨_, rfl⟩
        obtain ⟨m, hm⟩ : ∃ m, m = ((q0', q1') :: B').length := ⟨_, rfl⟩
        have hn1 : A'.length = n - 1 := by rw [hn]; simp
        have hm1 : B'.length = m - 1 := by rw [hm]; simp
        rw [← hn] at hla ⊢
        rw [← hm] at hlb ⊢
        have hn0 : 0 < n := by rw [hn]; simp
        have hm0 : 0 < m := by rw [hm]; simp
        have hn0i : (0 : Int) < (n : Int) := by omega
        have hm0i : (0 : Int) < (m : Int) := by omega
        have hs1 : ∀ W : World, (Instr.sliceAt 61 (.slice (some ⟨b1, o1, none⟩) n ac') (some (.int .i64 1)) none none).run Tryz.prog W = .ok (.slice (if ac' = 1 then some ⟨b1, o1, none⟩ else some ⟨b1, o1 + 2, none⟩) (n - 1) (ac' - 1)) W := by
          intro W
          have q1 : (1 : Int) ≤ n := by omega
          by_cases q2 : ac' = 1
          · subst q2; simp [go_sem, q1]
          · simp [go_sem, q1, q2]
        have hs2 : ∀ W : World, (Instr.sliceAt 61 (.slice (some ⟨b2, o2, none⟩) m bc') (some (.int .i64 1)) none none).run Tryz.prog W = .ok (.slice (if bc' = 1 then some ⟨b2, o2, none⟩ else some ⟨b2, o2 + 2, none⟩) (m - 1) (bc' - 1)) W := by
          intro W
          have q1 : (1 : Int) ≤ m := by omega
          by_cases q2 : bc' = 1
          · subst q2; simp [go_sem, q1]
          · simp [go_sem, q1, q2]
        have HN1 := Lib.hid hn1
        have HM1 := Lib.hid hm1
        have HN := Lib.hid hn
        have HM := Lib.hid hm
        clear hA hB hn hm hn1 hm1 hla hlb
        by_cases h1 : p1' < q0'
        · have HP := Lib.hid (show overlapP A' ((q0', q1') :: B') = overlapP A B by rw [← HO.out, overlapP, if_pos h1])
          clear HO
          go_wp2
          go_quiet (fail)
          go_wp2
          go_roundw
          case rel => exact ⟨_, _, _, _, A', (q0', q1') :: B', by rw [HN1.out], by rw [HM.out], HTA.out.keep ((Keeps.refl [] wr).drewN _), HB'.out.keep ((Keeps.refl [] wr).drewN _), HP.out, HK.out.drewN _⟩
          case measure => simp only [lenOf]; omega
        · by_cases h2 : q1' < p0'
          · have HP := Lib.hid (show overlapP ((p0', p1') :: A') B' = overlapP A B by rw [← HO.out, overlapP, if_neg h1, if_pos h2])
            clear HO
            go_wp2
            go_quiet (fail)
            go_wp2
            go_quiet (fail)
            go_wp2
            go_roundw
            case rel => exact ⟨_, _, _, _, (p0', p1') :: A', B', by rw [HN.out], by rw [HM1.out], HA'.out.keep ((Keeps.refl [] wr).drewN _), HTB.out.keep ((Keeps.refl [] wr).drewN _), HP.out, HK.out.drewN _⟩
            case measure => simp only [lenOf]; omega
          · have HP := Lib.hid (show overlapP A B = true by rw [← HO.out, overlapP, if_neg h1, if_neg h2])
            clear HO
            go_wp2
            go_quiet (fail)
            go_wp2
            go_quiet (fail)
            go_wp2
            go_ret
            exact ⟨by rw [HP.out]; rfl, (HK.out.drewN _).drewN _⟩

end Go.Proofs.YtgdmkddegcecaaaGreat
