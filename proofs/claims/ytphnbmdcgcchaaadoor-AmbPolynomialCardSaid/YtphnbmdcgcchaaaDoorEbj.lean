/- Part 36 of the proof. No condition: every lemma says its own. -/
import Derived.Test.YtphnbmdcgcchaaaDoorEbe
import Derived.Test.YtphnbmdcgcchaaaDoorEbd
import Derived.Test.YtphnbmdcgcchaaaDoorEak
namespace Go.Proofs.YtphnbmdcgcchaaaDoor
open Go.RowKit Go.Sort Go.BigFrame Classical
open Go.RowKit
set_option maxRecDepth 100000
set_option maxHeartbeats 16000000
section
theorem selC_snoc (es : List E4) (e : E4) (c : Int) : selC (es ++ [e]) c = if e.cl = c then selC es c ++ [e] else selC es c := by
 unfold selC
 rw [List.filter_append]
 by_cases h : e.cl = c <;> simp [h]
theorem selC_le (es : List E4) (c : Int) : (selC es c).length ≤ es.length := List.length_filter_le _ _
structure ByC (w : World) (base mb : Nat) (sl : Int → Option Nat × Nat) (es : List E4) : Prop where
 map : ∃ g, MapAt w Tryd.prog 3 mb es.length g ∧ ∀ c, g (.int .i64 c) = if selC es c = [] then none else some (sv (sl c).1 (selC es c).length (sl c).2)
 sls : ∀ c, SliceAt w 48 4 (sl c).1 (selC es c).length (sl c).2 (flatE (selC es c))
 nil : ∀ c, selC es c = [] → sl c = (none, 0)
 mbb : base ≤ mb
 slo : ∀ c g, (sl c).1 = some g → base ≤ g ∧ g ≠ mb
 one : ∀ c d g, (sl c).1 = some g → (sl d).1 = some g → c = d
variable {w w2 w3 w' : World} {base mb : Nat} {sl : Int → Option Nat × Nat} {es : List E4}
theorem ByC.keep (h : ByC w base mb sl es) {S : List Nat} (k : Keeps S w w') (hS : ∀ x ∈ S, x < base) : ByC w' base mb sl es := by
 refine ⟨?_, fun c => (h.sls c).keep k fun g hg hm => ?_, h.nil, h.mbb, h.slo, h.one⟩
 ·obtain ⟨g, h1, h2⟩ := h.map
  exact ⟨g, h1.keep k fun hm => by have := hS _ hm; have := h.mbb; omega, h2⟩
 ·have := hS _ hm
  have := (h.slo c g hg).1
  omega
theorem ByC.keep2 (h : ByC w base mb sl es) {S : List Nat} (k : Keeps S w w') (hS : ∀ x ∈ S, x ≠ mb ∧ ∀ c, (sl c).1 ≠ some x) : ByC w' base mb sl es := by
 refine ⟨?_, fun c => (h.sls c).keep k fun g hg hm => (hS g hm).2 c hg, h.nil, h.mbb, h.slo, h.one⟩
 obtain ⟨g, h1, h2⟩ := h.map
 exact ⟨g, h1.keep k fun hm => (hS mb hm).1 rfl, h2⟩
theorem ByC.lt (h : ByC w base mb sl es) : mb < w.heap.size := by
 obtain ⟨g, h1, _⟩ := h.map
 exact h1.lt
theorem ByC.slt (h : ByC w base mb sl es) {c : Int} {g : Nat} (hg : (sl c).1 = some g) : g < w.heap.size := by
 have h1 := h.sls c
 rw [hg] at h1
 exact h1.lt
def updC (sl : Int → Option Nat × Nat) (c : Int) (v : Option Nat × Nat) : Int → Option Nat × Nat := fun d => if d = c then v else sl d
theorem ByC.step (h : ByC w base mb sl es) {e : E4} {g c2 : Nat} (h1 : SliceAt w2 48 4 (some g) ((selC es e.cl).length + 1) c2 (flatE (selC es e.cl) ++ e.cells)) (k1 : Keeps (sl e.cl).1.toList w w2) (hg : (sl e.cl).1 = some g ∨ w.heap.size ≤ g)
  (k2 : Keeps [mb] w2 w3) (gm : Value → Option Value) (hgm : ∀ c, gm (.int .i64 c) = if selC es c = [] then none else some (sv (sl c).1 (selC es c).length (sl c).2))
  (h2 : MapAt w3 Tryd.prog 3 mb (es.length + 1) (fun u => if u = .int .i64 e.cl then some (sv (some g) ((selC es e.cl).length + 1) c2) else gm u)) (hb : base ≤ w.heap.size) :
  ByC w3 base mb (updC sl e.cl (some g, c2)) (es ++ [e]) := by
 have hgmb : g ≠ mb := by
  rcases hg with hg | hg
  ·exact (h.slo e.cl g hg).2
  ·have := h.lt; omega
 have hgo : base ≤ g := by
  rcases hg with hg | hg
  ·exact (h.slo e.cl g hg).1
  ·omega
 have hne : ∀ d, d ≠ e.cl → ∀ k, (sl d).1 = some k → k ≠ g ∧ k ∉ (sl e.cl).1.toList := fun d hnd k hk => by
  constructor
  ·intro e1
   subst e1
   rcases hg with hg | hg
   ·exact hnd (h.one d e.cl k hk hg)
   ·have := h.slt hk; omega
  ·intro hmem
   have : (sl e.cl).1 = some k := by simpa using hmem
   exact hnd (h.one d e.cl k hk this)
 have hu1 : updC sl e.cl (some g, c2) e.cl = (some g, c2) := by simp [updC]
 have hu2 : ∀ d, d ≠ e.cl → updC sl e.cl (some g, c2) d = sl d := fun d hc => by simp only [updC, if_neg hc]
 have hs1 : selC (es ++ [e]) e.cl = selC es e.cl ++ [e] := by rw [selC_snoc, if_pos rfl]
 have hs2 : ∀ d, d ≠ e.cl → selC (es ++ [e]) d = selC es d := fun d hc => by rw [selC_snoc, if_neg (fun h => hc h.symm)]
 refine ⟨?_, fun d => ?_, fun d hnil => ?_, h.mbb, fun d k hk => ?_, fun d d' k hk hk' => ?_⟩
 ·rw [List.length_append, List.length_singleton]
  refine ⟨_, h2, fun d => ?_⟩
  by_cases hd : d = e.cl
  ·subst hd
   rw [hs1, hu1]
   simp
  ·rw [hs2 d hd, hu2 d hd, ← hgm d]
   simp [hd]
 ·by_cases hd : d = e.cl
  ·subst hd
   rw [hs1, hu1, List.length_append, List.length_singleton, flatE_append]
   have := h1.keep k2 (fun k hk => by simp only [Option.some.injEq] at hk; subst hk; simp only [List.mem_singleton]; exact hgmb)
   simpa [flatE] using this
  ·rw [hs2 d hd, hu2 d hd]
   refine ((h.sls d).keep k1 fun k hk => (hne d hd k hk).2).keep k2 fun k hk => ?_
   simp only [List.mem_singleton]
   exact (h.slo d k hk).2
 ·by_cases hd : d = e.cl
  ·subst hd
   rw [hs1] at hnil
   simp at hnil
  ·rw [hs2 d hd] at hnil
   rw [hu2 d hd]
   exact h.nil d hnil
 ·by_cases hd : d = e.cl
  ·subst hd
   rw [hu1] at hk
   simp only [Option.some.injEq] at hk
   subst hk
   exact ⟨hgo, hgmb⟩
  ·rw [hu2 d hd] at hk
   exact h.slo d k hk
 ·by_cases hd : d = e.cl
  ·subst hd
   rw [hu1] at hk
   simp only [Option.some.injEq] at hk
   subst hk
   by_cases hd' : d' = e.cl
   ·exact hd'.symm
   ·rw [hu2 d' hd'] at hk'
    exact absurd rfl (hne d' hd' _ hk').1
  ·rw [hu2 d hd] at hk
   by_cases hd' : d' = e.cl
   ·subst hd'
    rw [hu1] at hk'
    simp only [Option.some.injEq] at hk'
    exact absurd hk'.symm (hne d hd _ hk).1
   ·rw [hu2 d' hd'] at hk'
    exact h.one d d' k hk hk'
theorem ByC.start (w : World) : ByC (w.alloc (.map #[] 0)) w.heap.size w.heap.size (fun _ => (none, 0)) [] :=
 ⟨⟨_, MapAt.made w _ _, fun c => by simp [selC]⟩, fun c => SliceAt.nil _ _ _, fun _ _ => rfl, Nat.le_refl _, (fun c g h => by cases h), fun c d g h => by cases h⟩
theorem cnt1_any (t : Int) (pt pn : Nat) (b off tc tn : Nat) (i : Nat) (k : Cl) (w : World) (h3 : w.cell? ⟨pt, 0, none⟩ = some (.slice (some ⟨b, off, none⟩) tn tc)) (h4 : w.cell? ⟨pn, 0, none⟩ = some (.int .i64 i)) (hi : i < tn) (ht : w.cell? ⟨b, off + i, none⟩ = some (.int .i64 t))
  (hs : SpIn w k.a k.sp) (hn : k.sp.length ≤ 1000000000000) :
  Calls Tryd.prog 31 #[clV k, .pointer (some ⟨pt, 0, none⟩), .pointer (some ⟨pn, 0, none⟩)] w fun e w' => e = .returned (.bool (hasB k.sp t)) ∧ Keeps [] w w' := by
 have HH := Lib.hid (has_any k.a k.c k.sp t w hs hn)
 unfold clV
 clear hs hn
 go_enter Tryd.func31, Tryd.ntmps31
 go_wp2_with fail
 refine Calls.mono HH.out ?_
 rintro e w2 ⟨rfl, hk⟩
 have HK := Lib.hid hk
 clear hk
 go_wp2
 go_ret
 exact ⟨rfl, HK.out⟩
theorem clsOf_step {cls : List Cl} {s : Int} {k : Nat} (hk : k < cls.length) (hb : hasB (cls[k]).sp s = true) (hn : ∀ j (h : j < k), hasB (cls[j]'(by omega)).sp s = false) : clsOf cls s = k := by
 have h : cls.findIdx? (fun k => hasB k.sp s) = some k := by
  rw [List.findIdx?_eq_some_iff_getElem]
  exact ⟨hk, hb, fun j hj => by simpa using hn j hj⟩
 unfold clsOf
 rw [h]
theorem clsOf_none {cls : List Cl} {s : Int} (hn : ∀ j (h : j < cls.length), hasB (cls[j]).sp s = false) : clsOf cls s = -1 := by
 have h : cls.findIdx? (fun k => hasB k.sp s) = none := by
  rw [List.findIdx?_eq_none_iff]
  intro x hx
  obtain ⟨j, hj, rfl⟩ := List.getElem_of_mem hx
  exact hn j hj
 unfold clsOf
 rw [h]
theorem indexC_any (s : Int) (pt pn : Nat) (b off tc tn i : Nat) (ca : Option Addr) (cc : Nat) (cls : List Cl) (w : World) (h3 : w.cell? ⟨pt, 0, none⟩ = some (.slice (some ⟨b, off, none⟩) tn tc)) (h4 : w.cell? ⟨pn, 0, none⟩ = some (.int .i64 i)) (hi : i < tn) (ht : w.cell? ⟨b, off + i, none⟩ = some (.int .i64 s))
  (hcl : ClsIn w ca cls) (hsp : ∀ k ∈ cls, SpIn w k.a k.sp ∧ k.sp.length ≤ 1000000000000) (hl : cls.length ≤ 1000000000000) :
  Calls Tryd.prog 30 #[.slice ca cls.length cc, .func (.func 31) #[] #[.pointer (some ⟨pt, 0, none⟩), .pointer (some ⟨pn, 0, none⟩)]] w fun e w' => e = .returned (.int .i64 (clsOf cls s)) ∧ Keeps [] w w' := by
 have H1 := Lib.hid (fun (k : Cl) (hk : k ∈ cls) (W : World) (hw : Keeps [] w W) => cnt1_any s pt pn b off tc tn i k W (hw.cell h3 (by simp)) (hw.cell h4 (by simp)) hi (hw.cell ht (by simp)) ((hsp k hk).1.keep hw) (hsp k hk).2)
 have HCL := Lib.hid hcl
 clear h3 h4 hi ht hcl hsp
 go_enter Tryd.func30, Tryd.ntmps30
 go_wp2
 go_loopw [8] (fun v wr => ∃ k : Nat, k ≤ cls.length ∧ v = .int .i64 k ∧ Keeps [] w wr ∧ ∀ j (h : j < k) (h' : j < cls.length), hasB (cls[j]).sp s = false) (fun v _ => cls.length - (intOf v).toNat)
 case atStart => exact ⟨0, Nat.zero_le _, rfl, Keeps.refl _ _, fun j h => absurd h (Nat.not_lt_zero _)⟩
 case round =>
  obtain ⟨k, hkk, rfl, hkw, hno⟩ := hrel
  have HKW := Lib.hid hkw
  have HNO := Lib.hid hno
  by_cases hlt : k < cls.length
  ·obtain ⟨cb, coff, rfl, hc⟩ := (HCL.out.keep hkw) (by omega)
   have e0 := hc k hlt
   have HC := H1.out cls[k] (List.getElem_mem hlt) wr hkw
   obtain ⟨tb, htb⟩ : ∃ tb, tb = hasB (cls[k]).sp s := ⟨_, rfl⟩
   rw [← htb] at HC
   have HTB := Lib.hid htb
   unfold clV at HC
   obtain ⟨v, hv⟩ : ∃ v : Value, v = .slice (cls[k]).a (cls[k]).sp.length (cls[k]).c := ⟨_, rfl⟩
   rw [← hv] at HC e0
   have HC := Lib.hid HC
   clear hc hkw hno htb hv
   cases tb with
   | true =>
    go_wp2_with fail
    refine Calls.mono HC.out ?_
    rintro e w2 ⟨rfl, hk2⟩
    have HK2 := Lib.hid (HKW.out.trans hk2)
    have HR := Lib.hid (show clsOf cls s = k from clsOf_step hlt HTB.out.symm (fun j h => HNO.out j h (by omega)))
    clear hk2
    go_wp2
    go_ret
    exact ⟨by rw [HR.out]; rfl, HK2.out⟩
   | false =>
    go_wp2_with fail
    refine Calls.mono HC.out ?_
    rintro e w2 ⟨rfl, hk2⟩
    have HK2 := Lib.hid (HKW.out.trans hk2)
    clear hk2
    go_wp2
    go_roundw
    case rel => exact ⟨k + 1, by omega, by go_num, HK2.out, fun j h h' => by
     by_cases e : j = k
     ·subst e; exact HTB.out.symm
     ·exact HNO.out j (by omega) h'⟩
    case measure => simp [intOf]; omega
  ·obtain rfl : k = cls.length := by omega
   have HR := Lib.hid (show clsOf cls s = -1 from clsOf_none (fun j h => HNO.out j h h))
   clear hkw hno
   go_wp2
   go_ret
   exact ⟨by rw [HR.out]; rfl, HKW.out⟩
end
theorem run_clear_sl {P : Program} {E T : Nat} {w : World} {u n c : Nat} {xs : List Value} (h : SliceAt w E 1 (some u) n c xs) (ht : P.underlying T = some (.slice E)) (hv : ∀ w, (zeroValue E).run P w = .ok (.int .i64 0) w) :
  ∃ w', (∀ ty, (Builtin.clear_ #[T] ty #[.slice (some ⟨u, 0, none⟩) n c]).run P w = .ok (.tuple #[]) w') ∧ SliceAt w' E 1 (some u) n c (List.replicate n (.int .i64 0)) ∧ Keeps [u] w w' := by
 obtain ⟨hx, cur, hg, hnc, hcm, hcs, htake⟩ := h
 cases n with
 | zero =>
  refine ⟨w, fun ty => by simp [Builtin.clear_, run_underlying ht], ⟨by simp, cur, hg, hnc, hcm, hcs, by simp⟩, Keeps.refl _ _⟩
 | succ n =>
  have hst := run_storeCells_at P u 0 E (List.replicate (n + 1) (Value.int .i64 0)) 0 cur w hg (by simp; omega) (by intro v hv; rw [List.eq_of_mem_replicate hv]; rfl)
  have hr : ∀ ty, (Builtin.clear_ #[T] ty #[.slice (some ⟨u, 0, none⟩) (n + 1) c]).run P w = .ok (.tuple #[]) (w.setRow u (cur.toList.take (0 + 0) ++ List.replicate (n + 1) (Value.int .i64 0) ++ cur.toList.drop (0 + 0 + (List.replicate (n + 1) (Value.int .i64 0)).length)).toArray) := fun ty => by
   simp [Builtin.clear_, run_underlying ht, hv, Value.cells, zeroCells_one, hst]
  refine ⟨_, hr, ⟨by simp, _, setRow_heap w u cur _ E _ hg, hnc, hcm, ?_, ?_⟩, (Keeps.refl [u] w).setRow (by simp) _⟩
  ·simp
   omega
  ·simp
end Go.Proofs.YtphnbmdcgcchaaaDoor
