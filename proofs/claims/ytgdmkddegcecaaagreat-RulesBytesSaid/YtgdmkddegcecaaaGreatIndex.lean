/- slices.IndexFunc, slices.ContainsFunc over nodes, at a test that reads; rules.single. Conditions: the nodes lie in memory. -/
import Derived.Test.YtgdmkddegcecaaaGreatConcat
import Derived.Test.YtgdmkddegcecaaaGreatNull
namespace Go.Proofs.YtgdmkddegcecaaaGreat
open Go.RowKit

/-- The index of the first tree that a test accepts, or -1. -/
def idxI (p : Tree → Bool) (l : List Tree) : Int := match l.findIdx? p with | none => -1 | some i => i
theorem idxI_none {p : Tree → Bool} {l : List Tree} (h : ∀ x ∈ l, p x = false) : idxI p l = -1 := by
  unfold idxI
  rw [List.findIdx?_eq_none_iff.2 h]
theorem idxI_some {p : Tree → Bool} {l : List Tree} {k : Nat} (hk : k < l.length) (h : ∀ x ∈ l.take k, p x = false) (hp : p l[k] = true) : idxI p l = k := by
  unfold idxI
  have : l.findIdx? p = some k := by
    rw [List.findIdx?_eq_some_iff_getElem]
    refine ⟨hk, hp, fun j hj => ?_⟩
    have := h l[j] (by rw [List.mem_take_iff_getElem]; exact ⟨j, by omega, rfl⟩)
    simp [this]
  rw [this]
theorem idxI_neg {p : Tree → Bool} {l : List Tree} : idxI p l < 0 ↔ ∀ x ∈ l, p x = false := by
  unfold idxI
  cases h : l.findIdx? p with
  | none => simp only [List.findIdx?_eq_none_iff] at h; exact ⟨fun _ => h, fun _ => by decide⟩
  | some i =>
    refine ⟨fun hh => by simp only at hh; omega, fun hh => ?_⟩
    rw [List.findIdx?_eq_none_iff.2 hh] at h
    cases h
theorem idxI_any {p : Tree → Bool} {l : List Tree} : decide (0 ≤ idxI p l) = l.any p := by
  by_cases h : ∀ x ∈ l, p x = false
  · have h1 := idxI_neg.2 h
    have : l.any p = false := by simpa using h
    rw [this, decide_eq_false_iff_not]; omega
  · have h1 : ¬ idxI p l < 0 := fun hh => h (idxI_neg.1 hh)
    have : l.any p = true := by
      rw [List.any_eq_true]
      simp only [Classical.not_forall, Bool.not_eq_false] at h
      obtain ⟨x, hx, hp⟩ := h
      exact ⟨x, hx, hp⟩
    rw [this, decide_eq_true_iff]; omega
theorem trees_getElem (l : List MRe) (k : Nat) (h : k < l.length) : (MRe.trees l)[k]'(by rw [MRe.trees_length]; exact h) = l[k].tree := by simp [MRe.trees_eq]
theorem take_all {p : Tree → Bool} {l : List Tree} {k : Nat} (hk : k < l.length) (h : ∀ x ∈ l.take k, p x = false) (hp : p l[k] = false) : ∀ x ∈ l.take (k + 1), p x = false := by
  intro x hx
  rw [List.take_succ_eq_append_getElem hk] at hx
  rcases List.mem_append.1 hx with hx | hx
  · exact h x hx
  · simp at hx; subst hx; exact hp

/-- Function K has a Go body. -/
def Enters (K : Nat) : Prop := ∀ (args : Array Value) (w : World), (callFunc K args).run Tryz.prog w = .ok (.enter K args) w
theorem enters_of {K : Nat} {fn : Func} {c : Code} (hf : Tryz.prog.funcs[K]? = some fn) (hname : (fn.name == "runtime.NumGoroutine") = false) (hb : fn.body = some c) : Enters K := fun args w => by
  have h1 : fn.name ≠ "runtime.NumGoroutine" := by simpa using hname
  simp [callFunc, hf, h1, hb]

set_option maxRecDepth 100000 in
set_option maxHeartbeats 1000000 in
theorem indexFunc_any (K : Nat) (cap : Array Value) (p : Tree → Bool) (ka : Option Addr) (kc : Nat) (kids : List MRe) (w : World) (he : Enters K) (hk : KidsIn w ka kc kids)
    (hf : ∀ k ∈ kids, ∀ W, Keeps [] w W → Calls Tryz.prog K (#[k.val] ++ cap) W fun e w' => e = .returned (.bool (p k.tree)) ∧ Keeps [] W w') :
    Calls Tryz.prog 59 #[.slice ka kids.length kc, .func (Fn.func K) #[] cap] w fun e w' => e = .returned (.int .i64 (idxI p (MRe.trees kids))) ∧ Keeps [] w w' := by
  have hcap := hk.nodes.cap
  have hle := hk.nodes.le
  unfold maxLen at hcap
  have HK := Lib.hid hk
  have HF := Lib.hid hf
  unfold Enters at he
  clear hk hf
  go_enter Tryz.func59, Tryz.ntmps59
  go_wp2
  go_loopw [8] (fun i wr => ∃ k : Nat, k ≤ kids.length ∧ i = .int .i64 k ∧ (∀ x ∈ (MRe.trees kids).take k, p x = false) ∧ Keeps [] w wr) (fun i _ => kids.length - (intOf i).toNat)
  case atStart => exact ⟨0, Nat.zero_le _, rfl, by simp, Keeps.refl _ _⟩
  case round =>
    obtain ⟨k, hkk, rfl, hpk, hkp⟩ := hrel
    have HP := Lib.hid hpk
    have HKP := Lib.hid hkp
    by_cases hlt : k < kids.length
    · obtain ⟨b, off, rfl, hb, hx⟩ := (HK.out.keep hkp).nodes.kid (by omega)
      have hx0 := hx k hlt
      have HC := Lib.hid (HF.out kids[k] (List.getElem_mem hlt) wr hkp)
      have hlt' : k < (MRe.trees kids).length := by rw [MRe.trees_length]; exact hlt
      have hsome := fun h => idxI_some (p := p) hlt' HP.out h
      have hall := fun h => take_all (p := p) hlt' HP.out h
      rw [trees_getElem kids k hlt] at hsome hall
      have HSO := Lib.hid hsome
      have HAL := Lib.hid hall
      generalize kids[k] = m at *
      obtain ⟨q, hq⟩ : ∃ q, q = p m.tree := ⟨_, rfl⟩
      rw [← hq] at HC HSO HAL
      obtain ⟨op1, sa1, sc1, set1, ka1, kc1, kids1, mn1, mx1, mode1, n1, neg1⟩ := m
      have g := hx0.node
      have c0 := g.c0
      have c1 := g.c1
      have c2 := g.c2
      have c3 := g.c3
      have c4 := g.c4
      have c5 := g.c5
      have c6 := g.c6
      have c7 := g.c7
      simp only [MRe.val] at HC
      clear g hx0 hx hpk hkp hq hsome hall HF
      cases q with
      | true =>
        go_wp2_with fail
        refine Calls.mono HC.out ?_
        rintro e w2 ⟨rfl, hk2⟩
        have HK2 := Lib.hid (HKP.out.trans hk2)
        clear hk2
        go_wp2
        go_ret
        exact ⟨by rw [HSO.out (by simp)]; rfl, HK2.out⟩
      | false =>
        go_wp2_with fail
        refine Calls.mono HC.out ?_
        rintro e w2 ⟨rfl, hk2⟩
        have HK2 := Lib.hid (HKP.out.trans hk2)
        clear hk2
        go_wp2
        go_roundw
        case rel => exact ⟨k + 1, by omega, by go_num, HAL.out (by simp), HK2.out⟩
        case measure => simp [intOf]; omega
    · obtain rfl : k = kids.length := by omega
      have h0 : idxI p (MRe.trees kids) = -1 := idxI_none (by rw [← MRe.trees_length, List.take_length] at hpk; exact hpk)
      have H0 := Lib.hid h0
      clear hpk hkp h0
      go_wp2
      go_ret
      exact ⟨by rw [H0.out]; rfl, HKP.out⟩

theorem containsFunc_any (K : Nat) (cap : Array Value) (p : Tree → Bool) (ka : Option Addr) (kc : Nat) (kids : List MRe) (w : World) (he : Enters K) (hk : KidsIn w ka kc kids)
    (hf : ∀ k ∈ kids, ∀ W, Keeps [] w W → Calls Tryz.prog K (#[k.val] ++ cap) W fun e w' => e = .returned (.bool (p k.tree)) ∧ Keeps [] W w') :
    Calls Tryz.prog 62 #[.slice ka kids.length kc, .func (Fn.func K) #[] cap] w fun e w' => e = .returned (.bool ((MRe.trees kids).any p)) ∧ Keeps [] w w' := by
  have HI := Lib.hid (indexFunc_any K cap p ka kc kids w he hk hf)
  have ha := idxI_any (p := p) (l := MRe.trees kids)
  obtain ⟨q, hq⟩ : ∃ q, q = idxI p (MRe.trees kids) := ⟨_, rfl⟩
  rw [← hq] at HI ha
  have HA := Lib.hid ha
  clear hk hf ha hq he
  go_enter Tryz.func62, Tryz.ntmps62
  go_wp2_with fail
  refine Calls.mono HI.out ?_
  rintro e w2 ⟨rfl, hk2⟩
  have HK2 := Lib.hid hk2
  clear hk2
  go_wp2
  go_ret
  exact ⟨by rw [← HA.out]; rfl, HK2.out⟩

mutual
/-- What rules.single returns (and the reference's Single). -/
def singleT : Tree → Bool
  | .node op _ kids mn mx mode _ _ =>
    if op = 3 then false
    else if op = 2 ∨ op = 10 ∨ op = 5 then singleAll kids
    else if op = 4 then mode == 2 || (mn == mx && singleHd kids)
    else true
def singleAll : List Tree → Bool
  | [] => true
  | k :: ks => singleT k && singleAll ks
def singleHd : List Tree → Bool
  | [] => false
  | k :: _ => singleT k
end
theorem singleAll_any (l : List Tree) : (!(l.any fun t => !singleT t)) = singleAll l := by
  induction l with
  | nil => rfl
  | cons x xs ih => simp only [List.any_cons, singleAll, ← ih]; cases singleT x <;> simp

theorem enters_single1 : Enters 84 := enters_of Tryz.func84 (by kernel_rfl) rfl

end Go.Proofs.YtgdmkddegcecaaaGreat
