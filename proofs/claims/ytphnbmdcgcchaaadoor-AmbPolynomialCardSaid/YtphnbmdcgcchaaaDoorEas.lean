/- Part 19 of the proof. No condition: every lemma says its own. -/
import Derived.Test.YtphnbmdcgcchaaaDoorEak
import Derived.Test.YtphnbmdcgcchaaaDoorEaa
namespace Go.Proofs.YtphnbmdcgcchaaaDoor
open Go.RowKit Go.Sort Go.BigFrame
set_option maxRecDepth 100000
set_option maxHeartbeats 16000000
theorem isort_nil (p : Nat) (w : World) : Calls Tryd.prog 76 #[.slice none 0 0, .int .i64 0, .int .i64 0, cmpV p] w fun e w' => e = .returned (.tuple #[]) ∧ w = w' := by
 unfold cmpV
 go_enter Tryd.func76, Tryd.ntmps76
 go_wp2
 go_loopw [8] (fun i wr => i = .int .i64 1 ∧ w = wr) (fun _ _ => 0)
 case atStart => exact ⟨rfl, rfl⟩
 case round =>
  obtain ⟨rfl, rfl⟩ := hrel
  go_wp2
  go_end0
  exact ⟨rfl, rfl⟩
theorem stable_nil (p : Nat) (w : World) : Calls Tryd.prog 72 #[.slice none 0 0, .int .i64 0, cmpV p] w fun e w' => e = .returned (.tuple #[]) ∧ w = w' := by
 have H0 := Lib.hid (fun W => isort_nil p W)
 unfold cmpV at H0 ⊢
 go_enter Tryd.func72, Tryd.ntmps72
 go_wp2
 go_loopw [7, 8] (fun s7 s8 wr => s7 = .int .i64 0 ∧ s8 = .int .i64 20 ∧ w = wr) (fun _ _ _ => 0)
 case atStart => exact ⟨rfl, rfl, rfl⟩
 case round =>
  obtain ⟨rfl, rfl, rfl⟩ := hrel
  go_wp2_with fail
  refine Calls.mono (H0.out _) ?_
  rintro e w1 ⟨rfl, rfl⟩
  go_wp2
  go_loopw [6] (fun s6 wr => s6 = .int .i64 20 ∧ w = wr) (fun _ _ => 0)
  case atStart => exact ⟨rfl, rfl⟩
  case round =>
   obtain ⟨rfl, rfl⟩ := hrel
   go_wp2
   go_end0
   exact ⟨rfl, rfl⟩
theorem sorts_nil (p : Nat) (w : World) : Calls Tryd.prog 59 #[.slice none 0 0, cmpV p] w fun e w' => e = .returned (.tuple #[]) ∧ w = w' := by
 have H0 := Lib.hid (stable_nil p w)
 unfold cmpV at H0 ⊢
 go_enter Tryd.func59, Tryd.ntmps59
 go_wp2_with fail
 refine Calls.mono H0.out ?_
 rintro e w1 ⟨rfl, rfl⟩
 go_wp2
 go_end0
 exact ⟨rfl, rfl⟩
theorem sort_sl (ga : Option Nat) (p mb mn : Nat) (gm : Value → Option Value) (key : Tri → Int) (xs : List Tri) (c : Nat) (w : World) (hE : KeyEnv w p mb mn gm) (hI : SliceAt w 92 3 ga xs.length c (triF xs))
  (hd : ∀ g, ga = some g → g ∉ [p, mb]) (hr : ∀ x ∈ xs, HasKey gm key x) (hxl : xs.length ≤ 1000000) :
  Calls Tryd.prog 59 #[sv ga xs.length c, cmpV p] w fun e w' =>
   e = .returned (.tuple #[]) ∧ ∃ ys, SliceAt w' 92 3 ga ys.length c (triF ys) ∧ ys.Perm xs ∧ Desc key ys 0 ys.length ∧ Keeps ga.toList w w' := by
 cases ga with
 | none =>
  obtain ⟨h1, h2, rfl⟩ := hI
  have hx : xs = [] := List.eq_nil_of_length_eq_zero h2
  subst hx
  refine (sorts_nil p w).mono ?_
  rintro e w' ⟨rfl, rfl⟩
  exact ⟨rfl, [], SliceAt.nil _ _ _, .refl _, fun a b _ _ h => by simp at h, Keeps.refl _ _⟩
 | some g =>
  obtain ⟨h1, cur, h2, h3, h4, h5, h6⟩ := hI
  have ht : Tris 92 w g (cur.toList.drop (xs.length * 3)) xs := by
   unfold Tris
   rw [h2, ← h6, List.take_append_drop]
  refine (sorts_any g p mb mn gm key _ xs c w hE ht (hd g rfl) hr hxl).mono ?_
  rintro e w' ⟨rfl, ys, k1, k2, k3, k4⟩
  have hl := k2.len
  refine ⟨rfl, ys, ⟨triF_length ys, _, k1, by omega, h4, ?_, ?_⟩, k2.perm, by rw [hl]; exact k3, by simpa using k4⟩
  ·simp only [List.size_toArray, List.length_append, triF_length, List.length_drop, Array.length_toList]
   omega
  ·rw [hl, ← hl, ← triF_length ys]
   exact List.take_left
end Go.Proofs.YtphnbmdcgcchaaaDoor
