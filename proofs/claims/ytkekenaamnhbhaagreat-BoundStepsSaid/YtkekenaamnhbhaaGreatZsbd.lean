/- Part 30 of the proof. No condition: every lemma says its own. -/
import Derived.Test.YtkekenaamnhbhaaGreatZsbc
namespace Go.Proofs.YtkekenaamnhbhaaGreat
open Go.RowKit Go.Sort Go.BigFrame
set_option maxRecDepth 100000
set_option maxHeartbeats 16000000
section
theorem MRe.inductP {P : MRe → Prop} (h : ∀ op sa sc set ka kc kids mn mx mode n neg, (∀ k ∈ kids, P k) → P (.node op sa sc set ka kc kids mn mx mode n neg)) : ∀ m, P m := by
 intro m
 induction hb : m.tree.bulk using Nat.strongRecOn generalizing m with
 | _ b ih =>
  cases m with
  | node op sa sc set ka kc kids mn mx mode n neg =>
   refine h op sa sc set ka kc kids mn mx mode n neg fun k hk => ih k.tree.bulk ?_ k rfl
   subst hb
   have : k.tree ∈ MRe.trees kids := by rw [MRe.trees_eq]; exact List.mem_map_of_mem hk
   have := Tree.bulks_mem this
   simp only [MRe.tree, Tree.bulk]
   omega
theorem codesP_le (l : List Tree) : ∀ (p k : Nat), (codesP p (l.take k)).length ≤ (codesP p l).length := by
 induction l with
 | nil => intro p k; simp
 | cons x r ih =>
  intro p k
  cases k with
  | zero => simp [codesP]
  | succ k =>
   simp only [List.take_succ_cons, codesP, List.length_append]
   have := ih (p + (codeP p x).length) k
   omega
theorem treesP_getElem (l : List MRe) (i : Nat) (h : i < l.length) : (MRe.trees l)[i]'(by rw [MRe.trees_length]; exact h) = l[i].tree := by
 simp [MRe.trees_eq]
theorem spIn_slP {w : World} {e : Nat} {a : Option Nat} {n c : Nat} {set : List (Int × Int)} (h : SliceAt w e 2 a n c (flatP set)) : SpIn w (a.map fun g => ⟨g, 0, none⟩) set := fun h0 => by
 have hn : n = set.length := by have := h.1; rw [flatP_length] at this; omega
 cases a with
 | none => have := h.2.1; omega
 | some g =>
  refine ⟨g, 0, rfl, fun i hi => ?_⟩
  obtain ⟨g0, g1⟩ := flatP_get set i hi
  obtain ⟨l0, g0⟩ := List.getElem?_eq_some_iff.1 g0
  obtain ⟨l1, g1⟩ := List.getElem?_eq_some_iff.1 g1
  exact ⟨by rw [Nat.zero_add, h.cell _ l0, g0], by rw [Nat.zero_add, h.cell _ l1, g1]⟩
variable {Wt w0 w w' w1 : World} {bc bp bw ba br : Nat} {cs cs' : List Ins} {a a' a1 : Option Nat} {c c' : Nat}
set_option linter.unusedSimpArgs false in
theorem write_any (kt : Keeps [] Wt w0) (hbc : Wt.heap.size ≤ bc) (hev : EV w0 bc bp bw ba br) (m : MRe) : m.OK Wt → okP m.tree = true → m.tree.bulk ≤ 1000000 → WrOK Wt w0 bc bp bw ba br m := by
 induction m using MRe.inductP with
 | h op sa sc set ka kc kids mn mx mode n neg ih =>
  intro k1 hok hbk b o cs a c w hat h hl
  cases k1 with
  | mk hs hk hr =>
  have HEV := gI (fun W (k : Keeps [bc] w0 W) => hev.of k)
  have HAT := gI (fun W (k : Keeps [] Wt W) => (hat.keep k).node)
  have HCA := gI h
  have HKT := gI (fun W a c cs (h : CA w0 bc W cs a c) => h.old kt hbc)
  have HS := gI (fun W (k : Keeps [] Wt W) => hs.keep k)
  have hset : set.length ≤ 1000000 := by simp only [MRe.tree, Tree.bulk] at hbk; omega
  have hkb : ∀ k ∈ kids, k.tree.bulk ≤ 1000000 := fun k hk => by
   have hm : k.tree ∈ MRe.trees kids := by rw [MRe.trees_eq]; exact List.mem_map_of_mem hk
   have h1 := Tree.bulks_mem hm
   simp only [MRe.tree, Tree.bulk] at hbk
   omega
  obtain ⟨code, hcode⟩ : ∃ code, code = codeP cs.length (MRe.node op sa sc set ka kc kids mn mx mode n neg).tree := ⟨_, rfl⟩
  rw [← hcode] at hl ⊢
  obtain ⟨Q, hQ⟩ : ∃ Q, Q = WrP w0 bc w a cs code := ⟨_, rfl⟩
  rw [← hQ]
  have HQ := gI hQ
  have HCO := gI hcode
  obtain ⟨n0, n1, n2, n3, n4, n5, n6, n7⟩ := HAT.out w (h.old kt hbc)
  have HOK := gI hok
  simp only [MRe.tree, okP, Bool.or_eq_true, Bool.and_eq_true, decide_eq_true_eq] at hok
  rcases hok with (⟨rfl, hke⟩ | ⟨rfl, hke⟩) | ⟨⟨⟨⟨⟨⟨rfl, rfl⟩, rfl⟩, rfl⟩, hk1⟩, hke⟩, _⟩
  ·have p0 := (HEV.out w h.kp).p
   have HCL := gI (fun W (k : Keeps [] w W) => spanCloneP_any sa sc set W (HS.out W ((h.old kt hbc).trans k)) hset)
   have hc1 : code = [⟨1, 0, 0, 0, set⟩] := by rw [hcode]; simp [MRe.tree, codeP]
   have HC1 := gI hc1
   have hcl : cs.length ≤ 90000 := by omega
   clear hQ hcode hc1 hs hk hr ih hat h kt hbc hev hkb hke hbk n2 n3 n4 n5 n6 n7
   go_enter Tryz.func82, Tryz.ntmps82
   go_upto_region 2 with fail
   refine wp_region_held_drew (S := fun W => W.cell? ⟨bp, 0, none⟩ = some (.func (Fn.func 78) #[] #[.pointer (some ⟨bc, 0, none⟩)]) ∧ W.cell? ⟨b, o + 1, none⟩ = some (.slice sa set.length sc)) (by kernel_rfl) ⟨p0, n1⟩ (fun hHeld => ?_)
   clear p0 n0 n1
   refine take_on (i := 0) (v := ?_) rfl (by kernel_rfl) (by kernel_rfl) (by kernel_rfl) (fun _ _ _ h => h) (by rfl) (by assumption) ?_ ?_
   rotate_left
   ·((intro w hSw; (try dsimp only at hSw); go_simp <;> with_reducible rfl); done)
   try simp only [Act.put, List.setIfInBounds_toArray, List.set_cons_zero, List.set_cons_succ]
   refine take_on (i := 1) (v := ?_) rfl (by kernel_rfl) (by kernel_rfl) (by kernel_rfl) (fun _ _ _ h => h) (by rfl) (by assumption) ?_ ?_
   rotate_left
   ·((intro w hSw; (try dsimp only at hSw); go_simp <;> with_reducible rfl); done)
   try simp only [Act.put, List.setIfInBounds_toArray, List.set_cons_zero, List.set_cons_succ]
   refine take_on (i := 2) (v := ?_) rfl (by kernel_rfl) (by kernel_rfl) (by kernel_rfl) (fun _ _ _ h => h) (by rfl) (by assumption) ?_ ?_
   rotate_left
   ·((intro w hSw; (try dsimp only at hSw); go_simp <;> with_reducible rfl); done)
   try simp only [Act.put, List.setIfInBounds_toArray, List.set_cons_zero, List.set_cons_succ]
   refine take_on (i := 3) (v := ?_) rfl (by kernel_rfl) (by kernel_rfl) (by kernel_rfl) (fun _ _ _ h => h) (by rfl) (by assumption) ?_ ?_
   rotate_left
   ·((intro w hSw; (try dsimp only at hSw); go_simp <;> with_reducible rfl); done)
   try simp only [Act.put, List.setIfInBounds_toArray, List.set_cons_zero, List.set_cons_succ]
   refine take_on (i := 4) (v := ?_) rfl (by kernel_rfl) (by kernel_rfl) (by kernel_rfl) (fun _ _ _ h => h) (by rfl) (by assumption) ?_ ?_
   rotate_left
   ·((intro w hSw; (try dsimp only at hSw); go_simp <;> with_reducible rfl); done)
   try simp only [Act.put, List.setIfInBounds_toArray, List.set_cons_zero, List.set_cons_succ]
   refine branch_one (i := 5) rfl (by kernel_rfl) (by rfl) (fun K hK => ?_)
   go_simp
   with_reducible refine Calls.mono (HCL.out _ (Keeps.refl [] w).drew) ?_
   rintro e w5 ⟨as_, ac, rfl, hsl, hk5, hnw⟩
   have HCB := gI (HCA.out.keep ((Keeps.refl [] w).drew.trans hk5))
   have HPUT := gI (put_any ⟨1, 0, 0, 0, as_.map fun g => ⟨g, 0, none⟩, ac, set⟩ w5 HCB.out (by omega) (spIn_slP hsl) (fun y hy => by
    obtain ⟨g, hg, rfl⟩ := Option.map_eq_some_iff.1 hy
    have h1 := hnw g hg
    have h2 := HCA.out.kp.size
    have h3 : w.drew.heap.size = w.heap.size := rfl
    subst hg
    refine ⟨by simp only; omega, fun e => ?_, hsl.lt⟩
    have := HCA.out.alt g e
    omega))
   have HCS := gI (CGw.of_keep HCA.out ((Keeps.refl [] w).drew.trans hk5))
   have p0 := (HEV.out w5 HCB.out.kp).p
   obtain ⟨_, n1, _, _, _, _, _, _⟩ := HAT.out w5 (HKT.out _ _ _ _ HCB.out)
   clear hsl hk5 hnw
   refine hK.out _ _ (⟨p0, n1⟩) (fun hHeld => ?_)
   clear hK K
   try simp only [Act.put, List.setIfInBounds_toArray, List.set_cons_zero, List.set_cons_succ]
   refine take_on (i := 6) (v := ?_) rfl (by kernel_rfl) (by kernel_rfl) (by kernel_rfl) (fun _ _ _ h => h) (by rfl) (by assumption) ?_ ?_
   rotate_left
   ·((intro w hSw; (try dsimp only at hSw); go_simp <;> with_reducible rfl); done)
   try simp only [Act.put, List.setIfInBounds_toArray, List.set_cons_zero, List.set_cons_succ]
   refine branch_one (i := 7) rfl (by kernel_rfl) (by rfl) (fun K hK => ?_)
   go_simp
   with_reducible refine Calls.mono HPUT.out ?_
   rintro e w6 ⟨rfl, a6, c6, hcs6⟩
   have HC6 := gI (HCS.out.trans hcs6)
   have q0 := (HEV.out w6 HC6.out.ca.kp).p
   obtain ⟨_, q1, _, _, _, _, _, _⟩ := HAT.out w6 (HKT.out _ _ _ _ HC6.out.ca)
   clear hcs6
   refine hK.out _ _ (⟨q0, q1⟩) (fun hHeld => ?_)
   clear hK K
   try simp only [Act.put, List.setIfInBounds_toArray, List.set_cons_zero, List.set_cons_succ]
   refine wpAnyH_done (by kernel_rfl) ?_ _
   clear hHeld p0 n1 q0 q1
   go_wp2
   go_end0
   rw [HQ.out]
   exact ⟨rfl, [⟨1, 0, 0, 0, as_.map fun g => ⟨g, 0, none⟩, ac, set⟩], a6, c6, by rw [HC1.out]; rfl, HC6.out⟩
  ·have HIH := gI (fun i (hi : i < kids.length) (b' o' : Nat) => ih kids[i] (List.getElem_mem hi) (hr _ (List.getElem_mem hi)) (okPs_mem hke _ (by rw [MRe.trees_eq]; exact List.mem_map_of_mem (List.getElem_mem hi))) (hkb _ (List.getElem_mem hi)) b' o')
   have hc1 : code = codesP cs.length (MRe.trees kids) := by rw [hcode]; simp [MRe.tree, codeP]
   have HC1 := gI hc1
   have HNK := gI hk
   have hkl : kids.length ≤ 1000000 := by
    have h1 := Tree.length_le_bulks (MRe.trees kids)
    rw [MRe.trees_length] at h1
    simp only [MRe.tree, Tree.bulk] at hbk
    omega
   clear hQ hcode hc1 hs hk hr ih hat h kt hbc hev hkb hke hbk n1 n3 n4 n5 n6 n7
   go_enter Tryz.func82, Tryz.ntmps82
   go_upto_region 7 with fail
   clear n0 n2
   go_loopw [37] (fun v37 wr => ∃ (k : Nat) (new : List Ins) (a1 : Option Nat) (c1 : Nat), v37 = .int .i64 k ∧ k ≤ kids.length ∧ new.map insS = codesP cs.length ((MRe.trees kids).take k) ∧ CGw w0 bc w a wr (cs ++ new) a1 c1) (fun v37 _ => kids.length - (intOf v37).toNat)
   case atStart => exact ⟨0, [], a, c, rfl, Nat.zero_le _, by simp [codesP], by rw [List.append_nil]; exact CGw.refl HCA.out⟩
   case round =>
    obtain ⟨k, new, a1, c1, rfl, hkk, hnew, hcs⟩ := hrel
    obtain ⟨wB, hwB⟩ : ∃ wB : World, wB = wr := ⟨_, rfl⟩
    subst hwB
    have HNEW := gI hnew
    have HCS := gI hcs
    clear hnew hcs
    by_cases hlt : k < kids.length
    ·have hlti : (k : Int) < (kids.length : Int) := by omega
     have hw1 : IntKind.i64.wrap ((k : Int) + 1) = (k : Int) + 1 := IntWalk.i64_in _ (by omega)
     obtain ⟨kb, ko, hka, _, hkat⟩ := HNK.out.kid (by omega)
     subst hka
     have hnl : new.length = (codesP cs.length ((MRe.trees kids).take k)).length := by rw [← HNEW.out, List.length_map]
     have htk := codesP_take (MRe.trees kids) cs.length k (by rw [MRe.trees_length]; exact hlt)
     rw [treesP_getElem kids k hlt, ← hnl] at htk
     have hle := codesP_le (MRe.trees kids) cs.length (k + 1)
     have hin : (cs ++ new).length = cs.length + new.length := by simp
     have HW := gI (HIH.out k hlt kb (ko + k * 8) (cs ++ new) a1 c1 wB.drew (hkat k hlt) (HCS.out.ca.keep (Keeps.refl [] wB).drew) (by
      rw [hin]
      rw [htk, List.length_append] at hle
      rw [HC1.out] at hl
      omega))
     rw [hin] at HW
     have HTK := gI htk
     have e0 := (HEV.out wB HCS.out.ca.kp).w_
     obtain ⟨_, _, n2, _, _, _, _, _⟩ := HAT.out wB (HKT.out _ _ _ _ HCS.out.ca)
     clear hnl htk hle hin hkat
     go_upto_region 9 with fail
     refine wp_region_held_drew (S := fun W => W.cell? ⟨bw, 0, none⟩ = some (.func (Fn.func 82) #[] #[.pointer (some ⟨bp, 0, none⟩), .pointer (some ⟨bw, 0, none⟩), .pointer (some ⟨ba, 0, none⟩), .pointer (some ⟨br, 0, none⟩)]) ∧ W.cell? ⟨b, o + 2, none⟩ = some (.slice (some ⟨kb, ko, none⟩) kids.length kc)) (by kernel_rfl) ⟨e0, n2⟩ (fun hHeld => ?_)
     clear e0 n2
     refine take_on (i := 0) (v := ?_) rfl (by kernel_rfl) (by kernel_rfl) (by kernel_rfl) (fun _ _ _ h => h) (by rfl) (by assumption) ?_ ?_
     rotate_left
     ·((intro w hSw; (try dsimp only at hSw); go_simp <;> with_reducible rfl); done)
     try simp only [Act.put, List.setIfInBounds_toArray, List.set_cons_zero, List.set_cons_succ]
     refine take_on (i := 1) (v := ?_) rfl (by kernel_rfl) (by kernel_rfl) (by kernel_rfl) (fun _ _ _ h => h) (by rfl) (by assumption) ?_ ?_
     rotate_left
     ·((intro w hSw; (try dsimp only at hSw); go_simp <;> with_reducible rfl); done)
     try simp only [Act.put, List.setIfInBounds_toArray, List.set_cons_zero, List.set_cons_succ]
     refine take_on (i := 2) (v := ?_) rfl (by kernel_rfl) (by kernel_rfl) (by kernel_rfl) (fun _ _ _ h => h) (by rfl) (by assumption) ?_ ?_
     rotate_left
     ·((intro w hSw; (try dsimp only at hSw); go_simp <;> with_reducible rfl); done)
     try simp only [Act.put, List.setIfInBounds_toArray, List.set_cons_zero, List.set_cons_succ]
     refine take_on (i := 3) (v := ?_) rfl (by kernel_rfl) (by kernel_rfl) (by kernel_rfl) (fun _ _ _ h => h) (by rfl) (by assumption) ?_ ?_
     rotate_left
     ·((intro w hSw; (try dsimp only at hSw); go_simp <;> with_reducible rfl); done)
     try simp only [Act.put, List.setIfInBounds_toArray, List.set_cons_zero, List.set_cons_succ]
     refine take_on (i := 4) (v := ?_) rfl (by kernel_rfl) (by kernel_rfl) (by kernel_rfl) (fun _ _ _ h => h) (by rfl) (by assumption) ?_ ?_
     rotate_left
     ·((intro w hSw; (try dsimp only at hSw); go_simp <;> with_reducible rfl); done)
     try simp only [Act.put, List.setIfInBounds_toArray, List.set_cons_zero, List.set_cons_succ]
     refine take_on (i := 5) (v := ?_) rfl (by kernel_rfl) (by kernel_rfl) (by kernel_rfl) (fun _ _ _ h => h) (by rfl) (by assumption) ?_ ?_
     rotate_left
     ·((intro w hSw; (try dsimp only at hSw); go_simp <;> with_reducible rfl); done)
     try simp only [Act.put, List.setIfInBounds_toArray, List.set_cons_zero, List.set_cons_succ]
     refine take_on (i := 6) (v := ?_) rfl (by kernel_rfl) (by kernel_rfl) (by kernel_rfl) (fun _ _ _ h => h) (by rfl) (by assumption) ?_ ?_
     rotate_left
     ·((intro w hSw; (try dsimp only at hSw); go_simp <;> with_reducible rfl); done)
     try simp only [Act.put, List.setIfInBounds_toArray, List.set_cons_zero, List.set_cons_succ]
     refine branch_one (i := 7) rfl (by kernel_rfl) (by rfl) (fun K hK => ?_)
     go_simp
     with_reducible refine Calls.mono HW.out ?_
     rintro e w8 ⟨rfl, new2, a3, c3, hnew2, hcs3⟩
     have HC8 := gI ((HCS.out.keep (Keeps.refl [] wB).drew).trans hcs3)
     have HN2 := gI hnew2
     have e8 := (HEV.out w8 HC8.out.ca.kp).w_
     obtain ⟨_, _, m2, _, _, _, _, _⟩ := HAT.out w8 (HKT.out _ _ _ _ HC8.out.ca)
     clear hnew2 hcs3
     refine hK.out _ _ (⟨e8, m2⟩) (fun hHeld => ?_)
     clear hK K
     try simp only [Act.put, List.setIfInBounds_toArray, List.set_cons_zero, List.set_cons_succ]
     refine wpAnyH_done (by kernel_rfl) ?_ _
     clear hHeld e8 m2
     go_wp2
     go_roundw
     case rel => exact ⟨k + 1, new ++ new2, a3, c3, by go_num, by omega, by rw [List.map_append, HNEW.out, HN2.out, HTK.out], by have h := HC8.out; rw [List.append_assoc] at h; exact h⟩
     case measure => simp [intOf]; omega
    ·obtain rfl : k = kids.length := by omega
     go_wp2
     go_end0
     rw [HQ.out]
     exact ⟨rfl, new, a1, c1, by rw [HNEW.out, HC1.out, List.take_of_length_le (by rw [MRe.trees_length]; exact Nat.le_refl _)], HCS.out⟩
  ·obtain ⟨kid, rfl⟩ : ∃ kid, kids = [kid] := by
    rw [MRe.trees_length] at hk1
    cases kids with
    | nil => cases hk1
    | cons x r => cases r with
     | nil => exact ⟨x, rfl⟩
     | cons y s => simp at hk1
   have hik := ih kid (by simp) (hr _ (by simp)) (okPs_mem hke _ (by simp [MRe.trees])) (hkb _ (by simp))
   have HRP := gI (rep_any (sa := sa) (sc := sc) (set := set) (n := n) (neg := neg) kt hbc hev hk hik b o w hat h (by rw [← hcode]; exact hl))
   rw [← hcode, ← hQ] at HRP
   have r0 := (HEV.out w h.kp).r
   clear hQ hcode hs hk hr ih hat h kt hbc hev hkb hke hbk hik n1 n2 n3 n4 n5 n6 n7 hk1
   go_enter Tryz.func82, Tryz.ntmps82
   go_wp2_with fail
   with_reducible refine Calls.mono HRP.out ?_
   rw [HQ.out]
   rintro e w8 ⟨rfl, new, a3, c3, hnew, hcs⟩
   have HRES := gI (And.intro hnew hcs)
   clear hnew hcs
   go_wp2
   go_end0
   rw [HQ.out]
   exact ⟨rfl, new, a3, c3, HRES.out.1, HRES.out.2⟩
end
def CodeP (w : World) (code : List IsT) (e : Ending) (w' : World) : Prop := ∃ (new : List Ins) (a : Option Nat) (c : Nat), e = .returned (.slice (a.map fun g => ⟨g, 0, none⟩) new.length c) ∧ new.map insS = code ∧ SliceAt w' 112 5 a new.length c (flatI new) ∧ (∀ i ∈ new, SpIn w' i.sa i.sp ∧ ∀ y, i.sa = some y → w.heap.size ≤ y.block ∧ a ≠ some y.block ∧ y.block < w'.heap.size) ∧ Keeps [] w w' ∧ ∀ g, a = some g → w.heap.size ≤ g
theorem heap_alloc_at_P {w W : World} {cs : Array Value} {t : Nat} (h : W = w.alloc (.cells cs t)) (cs' : Array Value) (t' : Nat) {B : Nat} (hB : w.heap.size = B) (hc : cs' = cs := by rfl) (ht : t' = t := by rfl) : W.heap[B]? = some (.cells cs' t' (0, 0)) := by
 subst hc ht; rw [h, ← hB]; exact heap_alloc_new w _
set_option linter.unusedSimpArgs false in
theorem codeOf_any (m : MRe) (b o : Nat) (w : World) (hat : At8 w b o m) (k1 : m.OK w) (hok : okP m.tree = true) (hbk : m.tree.bulk ≤ 1000000) (hl : (codeP 0 m.tree).length ≤ 90000) :
  Calls Tryz.prog 51 #[.pointer (some ⟨b, o, none⟩)] w (CodeP w (codeP 0 m.tree)) := by
 obtain ⟨Q, hQ⟩ : ∃ Q, Q = CodeP w (codeP 0 m.tree) := ⟨_, rfl⟩
 rw [← hQ]
 have HQ := gI hQ
 have hmf : ∀ (fn : Fn) (first cap : Array Value) (w : World), (Instr.makeFunc fn first cap).run Tryz.prog w = .ok (.func fn first cap) w := fun _ _ _ _ => rfl
 obtain ⟨B, hB⟩ : ∃ B, B = w.heap.size := ⟨_, rfl⟩
 have HWR := gI (fun w0 bp bw ba br (kt : Keeps [] w w0) (hev : EV w0 B bp bw ba br) => write_any (ba := ba) kt (Nat.le_of_eq hB.symm) hev m k1 hok hbk b o [])
 have HAT := gI hat
 have HL := gI hl
 have HB := gI hB
 clear hQ hat k1 hok hbk hl hB
 go_enter Tryz.func51, Tryz.ntmps51
 go_upto_region 7 with fail
 have hB := HB.out
 obtain ⟨W1, hW1⟩ : ∃ v, v = w.alloc (.cells #[.slice none 0 0] 81) := ⟨_, rfl⟩
 obtain ⟨W2, hW2⟩ : ∃ v, v = W1.alloc (.cells #[.func (Fn.func 78) #[] #[.pointer (some ⟨B, 0, none⟩)]] 142) := ⟨_, rfl⟩
 obtain ⟨W3, hW3⟩ : ∃ v, v = W2.alloc (.cells #[.func (Fn.func 82) #[] #[.pointer (some ⟨B + 1, 0, none⟩), .pointer (some ⟨B + 1 + 1, 0, none⟩), .pointer (some ⟨B + 1 + 1 + 1 + 1, 0, none⟩), .pointer (some ⟨B + 1 + 1 + 1, 0, none⟩)]] 134) := ⟨_, rfl⟩
 obtain ⟨W4, hW4⟩ : ∃ v, v = W3.alloc (.cells #[.func (Fn.func 79) #[] #[.pointer (some ⟨B + 1 + 1, 0, none⟩), .pointer (some ⟨B + 1, 0, none⟩), .pointer (some ⟨B, 0, none⟩)]] 134) := ⟨_, rfl⟩
 obtain ⟨W5, hW5⟩ : ∃ v, v = W4.alloc (.cells #[.func (Fn.func 81) #[] #[.pointer (some ⟨B + 1, 0, none⟩), .pointer (some ⟨B + 1 + 1, 0, none⟩), .pointer (some ⟨B, 0, none⟩)]] 144) := ⟨_, rfl⟩
 have k1 : Keeps [] w W1 := by rw [hW1]; exact (Keeps.refl [] _).alloc _
 have k2 : Keeps [] W1 W2 := by rw [hW2]; exact (Keeps.refl [] _).alloc _
 have k3 : Keeps [] W2 W3 := by rw [hW3]; exact (Keeps.refl [] _).alloc _
 have k4 : Keeps [] W3 W4 := by rw [hW4]; exact (Keeps.refl [] _).alloc _
 have k5 : Keeps [] W4 W5 := by rw [hW5]; exact (Keeps.refl [] _).alloc _
 have s1 : W1.heap.size = B + 1 := by rw [hW1]; simp [hB]
 have s2 : W2.heap.size = B + 1 + 1 := by rw [hW2]; simp [s1]
 have s3 : W3.heap.size = B + 1 + 1 + 1 := by rw [hW3]; simp [s2]
 have s4 : W4.heap.size = B + 1 + 1 + 1 + 1 := by rw [hW4]; simp [s3]
 have s5 : W5.heap.size = B + 1 + 1 + 1 + 1 + 1 := by rw [hW5]; simp [s4]
 have b1 : W5.heap[B]? = some (.cells #[.slice none 0 0] 81 (0, 0)) := (k5.heap (k4.heap (k3.heap (k2.heap (heap_alloc_at_P hW1 _ _ hB.symm) (by simp)) (by simp)) (by simp)) (by simp))
 have b2 : W5.heap[B + 1]? = some (.cells #[.func (Fn.func 78) #[] #[.pointer (some ⟨B, 0, none⟩)]] 142 (0, 0)) := (k5.heap (k4.heap (k3.heap (heap_alloc_at_P hW2 _ _ s1) (by simp)) (by simp)) (by simp))
 have b3 : W5.heap[B + 1 + 1]? = some (.cells #[.func (Fn.func 82) #[] #[.pointer (some ⟨B + 1, 0, none⟩), .pointer (some ⟨B + 1 + 1, 0, none⟩), .pointer (some ⟨B + 1 + 1 + 1 + 1, 0, none⟩), .pointer (some ⟨B + 1 + 1 + 1, 0, none⟩)]] 134 (0, 0)) := (k5.heap (k4.heap (heap_alloc_at_P hW3 _ _ s2) (by simp)) (by simp))
 have b4 : W5.heap[B + 1 + 1 + 1]? = some (.cells #[.func (Fn.func 79) #[] #[.pointer (some ⟨B + 1 + 1, 0, none⟩), .pointer (some ⟨B + 1, 0, none⟩), .pointer (some ⟨B, 0, none⟩)]] 134 (0, 0)) := (k5.heap (heap_alloc_at_P hW4 _ _ s3) (by simp))
 have b5 : W5.heap[B + 1 + 1 + 1 + 1]? = some (.cells #[.func (Fn.func 81) #[] #[.pointer (some ⟨B + 1, 0, none⟩), .pointer (some ⟨B + 1 + 1, 0, none⟩), .pointer (some ⟨B, 0, none⟩)]] 144 (0, 0)) := (heap_alloc_at_P hW5 _ _ s4)
 have hev : EV W5 B (B + 1) (B + 1 + 1) (B + 1 + 1 + 1 + 1) (B + 1 + 1 + 1) := ⟨by simp [World.cell?, b2], by simp [World.cell?, b3], by simp [World.cell?, b4], by omega⟩
 have hca : CA W5 B W5 [] none 0 := ⟨Keeps.refl _ _, b1, SliceAt.nil _ _ _, (fun g h => by cases h), by omega, (fun i hi => by cases hi)⟩
 have kw : Keeps [] w W5 := (((k1.trans k2).trans k3).trans k4).trans k5
 have HCALL := gI (HWR.out W5 _ _ _ _ kw hev none 0 W5 HAT.out hca (by simpa using HL.out))
 have HKW := gI kw
 have HEV := gI hev
 have HSZ := gI (show W5.heap.size = B + 1 + 1 + 1 + 1 + 1 from s5)
 have e0 := hev.w_
 rw [← HB.out, ← hW1, ← hW2, ← hW3, ← hW4, ← hW5]
 clear hW1 hW2 hW3 hW4 hW5 k1 k2 k3 k4 k5 s1 s2 s3 s4 s5 b1 b2 b3 b4 b5 hev hca kw hB
 go_wp2_with fail
 with_reducible refine Calls.mono HCALL.out ?_
 rintro e w8 ⟨rfl, new, a, c, hnew, hcs⟩
 simp only [List.nil_append, List.length_nil] at hnew hcs
 have HN := gI hnew
 have HCS := gI hcs
 obtain ⟨b0, _⟩ := hcs.ca.cell
 clear hnew hcs e0
 go_wp2
 rw [HQ.out]
 have hc := HCS.out
 have hB := HB.out
 have hS := HSZ.out
 have hkk : Keeps [] w w8 := HKW.out.after hc.ca.kp (fun x hx => .inr (by simp at hx; omega))
 have hws := HKW.out.size
 exact ⟨new, a, c, rfl, HN.out, hc.ca.sl, fun i hi => ⟨(hc.ca.sp i hi).1, fun y hy => by have h1 := (hc.ca.sp i hi).2 y hy; exact ⟨by omega, h1.2⟩⟩, hkk, fun g hg => by have := hc.ca.new g hg; omega⟩
end Go.Proofs.YtkekenaamnhbhaaGreat
