/- Part 29 of the proof. No condition: every lemma says its own. -/
import Derived.Test.YtkekenaamnhbhaaGreatZsbb
import Derived.Test.YtkekenaamnhbhaaGreatZsam
namespace Go.Proofs.YtkekenaamnhbhaaGreat
open Go.RowKit Go.Sort Go.BigFrame
set_option maxRecDepth 100000
set_option maxHeartbeats 16000000
theorem sl_someP {w : World} {t : Nat} {a : Option Nat} {n c : Nat} {xs : List Value} {s : Nat} (h : SliceAt w t s a n c xs) (hn : 0 < n) : ∃ g, a = some g := by
 cases a with
 | none => have := h.2.1; omega
 | some g => exact ⟨g, rfl⟩
structure EV (w : World) (bc bp bw ba br : Nat) : Prop where
 p : w.cell? ⟨bp, 0, none⟩ = some (.func (Fn.func 78) #[] #[.pointer (some ⟨bc, 0, none⟩)])
 w_ : w.cell? ⟨bw, 0, none⟩ = some (.func (Fn.func 82) #[] #[.pointer (some ⟨bp, 0, none⟩), .pointer (some ⟨bw, 0, none⟩), .pointer (some ⟨ba, 0, none⟩), .pointer (some ⟨br, 0, none⟩)])
 r : w.cell? ⟨br, 0, none⟩ = some (.func (Fn.func 79) #[] #[.pointer (some ⟨bw, 0, none⟩), .pointer (some ⟨bp, 0, none⟩), .pointer (some ⟨bc, 0, none⟩)])
 ne : bp ≠ bc ∧ bw ≠ bc ∧ br ≠ bc
variable {Wt w0 w w' w1 : World} {bc bp bw ba br : Nat} {cs cs' : List Ins} {a a' a1 : Option Nat} {c c' : Nat}
theorem EV.of (h : EV w0 bc bp bw ba br) (k : Keeps [bc] w0 w) : EV w bc bp bw ba br :=
 ⟨k.cell h.p (by simpa using h.ne.1), k.cell h.w_ (by simpa using h.ne.2.1), k.cell h.r (by simpa using h.ne.2.2), h.ne⟩
theorem CA.old (h : CA w0 bc w cs a c) (kt : Keeps [] Wt w0) (hb : Wt.heap.size ≤ bc) : Keeps [] Wt w := kt.after h.kp (fun x hx => .inr (by simp at hx; omega))
def WrP (w0 : World) (bc : Nat) (w : World) (a : Option Nat) (cs : List Ins) (code : List IsT) (e : Ending) (w' : World) : Prop := e = .returned (.tuple #[]) ∧ ∃ (new : List Ins) (a' : Option Nat) (c' : Nat), new.map insS = code ∧ CGw w0 bc w a w' (cs ++ new) a' c'
def WrOK (Wt w0 : World) (bc bp bw ba br : Nat) (m : MRe) : Prop := ∀ (b o : Nat) (cs : List Ins) (a : Option Nat) (c : Nat) (w : World), At8 Wt b o m → CA w0 bc w cs a c → cs.length + (codeP cs.length m.tree).length ≤ 90000 →
 Calls Tryz.prog 82 #[.pointer (some ⟨b, o, none⟩), .pointer (some ⟨bp, 0, none⟩), .pointer (some ⟨bw, 0, none⟩), .pointer (some ⟨ba, 0, none⟩), .pointer (some ⟨br, 0, none⟩)] w (WrP w0 bc w a cs (codeP cs.length m.tree))
def insZ : Ins := ⟨0, 0, 0, 0, none, 0, []⟩
theorem spIn_nil (w : World) (a : Option Addr) : SpIn w a [] := fun h => by simp at h
theorem CA.set {g : Nat} (h : CA w0 bc w cs (some g) c) (k : Nat) (hk : k < cs.length) (x y : Int) :
  CGw w0 bc w (some g) (((((w.setCell ⟨g, k * 5, none⟩ (.int .i64 2)).setCell ⟨g, k * 5 + 1, none⟩ (.int .i64 x)).setCell ⟨g, k * 5 + 2, none⟩ (.int .i64 y)).setCell ⟨g, k * 5 + 3, none⟩ (.int .i64 0)).setCell ⟨g, k * 5 + 4, none⟩ (.slice none 0 0)) (cs.set k ⟨2, x, y, 0, none, 0, []⟩) (some g) c := by
 have setN : ∀ {W : World} {xs : List Value} (_ : SliceAt W 112 5 (some g) cs.length c xs) (i : Nat) (v : Value), SliceAt (W.setCell ⟨g, i, none⟩ v) 112 5 (some g) cs.length c (xs.set i v) := fun h i v => by
  obtain ⟨h1, cur, h2, h3, h4, h5, h6⟩ := h
  refine ⟨by simpa using h1, _, heap_setCell_same _ g i _ _ v h2, h3, h4, by simpa using h5, ?_⟩
  subst h6
  simp [List.take_set]
 have k5 : Keeps [g] w (((((w.setCell ⟨g, k * 5, none⟩ (.int .i64 2)).setCell ⟨g, k * 5 + 1, none⟩ (.int .i64 x)).setCell ⟨g, k * 5 + 2, none⟩ (.int .i64 y)).setCell ⟨g, k * 5 + 3, none⟩ (.int .i64 0)).setCell ⟨g, k * 5 + 4, none⟩ (.slice none 0 0)) :=
  (((((Keeps.refl [g] w).setCell (by simp) _).setCell (by simp) _).setCell (by simp) _).setCell (by simp) _).setCell (by simp) _
 have hn := h.new g rfl
 have hlt := h.lt
 refine ⟨⟨h.kp.after k5 (fun x hx => .inr (by simp at hx; omega)), ?_, ?_, h.new, hlt, fun j hj => ?_⟩, k5.mono (by simp), .inl rfl⟩
 ·rw [List.length_set]; exact k5.heap h.box (by simp; omega)
 ·rw [List.length_set, flatI_set cs k hk]
  exact setN (setN (setN (setN (setN h.sl _ _) _ _) _ _) _ _) _ _
 ·rcases List.mem_or_eq_of_mem_set hj with hj | rfl
  ·have h1 := h.sp j hj
   exact ⟨h1.1.keepP k5 (fun y hy hm => (h1.2 y hy).2.1 (by simp at hm; rw [hm])), fun y hy => ⟨(h1.2 y hy).1, (h1.2 y hy).2.1, Nat.lt_of_lt_of_le (h1.2 y hy).2.2 k5.size⟩⟩
  ·exact ⟨spIn_nil _ _, fun y hy => by cases hy⟩
def RL2 (w0 : World) (bc : Nat) (w : World) (a : Option Nat) (cs : List Ins) (code : List IsT) (wr : World) (k : Nat) (v : Value) : Prop :=
 (k = 0 ∧ v = .slice none 0 0 ∧ wr = w) ∨ (k = 1 ∧ ∃ (gs cp : Nat) (new : List Ins) (a' : Option Nat) (c' : Nat), v = .slice (some ⟨gs, 0, none⟩) 1 cp ∧ SliceAt wr 3 1 (some gs) 1 cp [.int .i64 (cs.length : Nat)] ∧ w0.heap.size ≤ gs ∧ a' ≠ some gs ∧ new.map insS = code ∧ CGw w0 bc w a wr (cs ++ (insZ :: new)) a' c')
set_option linter.unusedSimpArgs false in
theorem rep_any (kt : Keeps [] Wt w0) (hbc : Wt.heap.size ≤ bc) (hev : EV w0 bc bp bw ba br) {sa : Option Addr} {sc : Nat} {set : List (Int × Int)} {ka : Option Addr} {kc : Nat} {kid : MRe} {n : Int} {neg : Bool} (hk : NodesIn Wt ka kc [kid]) (ih : WrOK Wt w0 bc bp bw ba br kid)
  (b o : Nat) (w : World) (hat : At8 Wt b o (.node 4 sa sc set ka kc [kid] 0 (-1) 0 n neg)) (h : CA w0 bc w cs a c) (hl : cs.length + (codeP cs.length (MRe.node 4 sa sc set ka kc [kid] 0 (-1) 0 n neg).tree).length ≤ 90000) :
  Calls Tryz.prog 79 #[.pointer (some ⟨b, o, none⟩), .pointer (some ⟨bw, 0, none⟩), .pointer (some ⟨bp, 0, none⟩), .pointer (some ⟨bc, 0, none⟩)] w (WrP w0 bc w a cs (codeP cs.length (MRe.node 4 sa sc set ka kc [kid] 0 (-1) 0 n neg).tree)) := by
 obtain ⟨code, hcode⟩ : ∃ code, code = codeP (cs.length + 1) kid.tree := ⟨_, rfl⟩
 have hcp : codeP cs.length (MRe.node 4 sa sc set ka kc [kid] 0 (-1) 0 n neg).tree = (⟨2, ((cs.length + 1 : Nat) : Int), ((cs.length + 2 + code.length : Nat) : Int), 0, []⟩ : IsT) :: (code ++ [⟨3, (cs.length : Nat), 0, 0, []⟩]) := by
  simp [MRe.tree, MRe.trees, codeP, codesP, hcode]
 rw [hcp] at hl ⊢
 simp only [List.length_cons, List.length_append, List.length_nil] at hl
 obtain ⟨Q, hQ⟩ : ∃ Q, Q = WrP w0 bc w a cs ((⟨2, ((cs.length + 1 : Nat) : Int), ((cs.length + 2 + code.length : Nat) : Int), 0, []⟩ : IsT) :: (code ++ [⟨3, (cs.length : Nat), 0, 0, []⟩])) := ⟨_, rfl⟩
 rw [← hQ]
 have HQ := gI hQ
 obtain ⟨kb, ko, rfl, _, hkat⟩ := hk.kid (by simp)
 have hk0 : At8 Wt kb ko kid := by have h1 := hkat 0 (by simp); simpa using h1
 have HEV := gI (fun W (k : Keeps [bc] w0 W) => hev.of k)
 have HAT := gI (fun W (k : Keeps [] Wt W) => (hat.keep k).node)
 have HCA := gI h
 have HKT := gI (fun W a c cs (h : CA w0 bc W cs a c) => h.old kt hbc)
 have HIH := gI (fun cs a c W (h : CA w0 bc W cs a c) (e : codeP cs.length kid.tree = code) (hl : cs.length + code.length ≤ 90000) => show Calls _ _ _ W (WrP w0 bc W a cs code) from by rw [← e]; exact ih kb ko cs a c W hk0 h (by rw [e]; exact hl))
 have HCO := gI hcode
 obtain ⟨ii, h0, h1, h2, h3⟩ := infoEP infoInt
 have HI := gI (And.intro h0 (And.intro h1 (And.intro h2 h3)))
 obtain ⟨n0, n1, n2, n3, n4, n5, n6, n7⟩ := HAT.out w (h.old kt hbc)
 clear hQ hk hkat hk0 hat h hev ih kt hbc hcode hcp n0 n1 n6 n7 h0 h1 h2 h3
 go_enter Tryz.func79, Tryz.ntmps79
 go_upto_region 1 with fail
 go_loopw [13] (fun v wr => v = .int .i64 0 ∧ wr = w) (fun _ _ => 0)
 case atStart => exact ⟨rfl, rfl⟩
 case round =>
  obtain ⟨rfl, hwr⟩ := hrel
  have hwr2 := hwr.symm
  clear hwr
  subst hwr2
  go_upto_region 4 with fail
  refine wp_region_held_drew (S := fun W => W.cell? ⟨b, o + 3, none⟩ = some (.int .i64 0) ∧ W.cell? ⟨b, o + 4, none⟩ = some (.int .i64 (-1))) (by kernel_rfl) ⟨n3, n4⟩ (fun hHeld => ?_)
  refine take_on (i := 0) (v := ?_) rfl (by kernel_rfl) (by kernel_rfl) (by kernel_rfl) (fun _ _ _ h => h) (by rfl) (by assumption) ?_ ?_
  rotate_left
  ·((intro w hSw; (try dsimp only at hSw); go_simp <;> with_reducible rfl); done)
  try simp only [Act.put, List.setIfInBounds_toArray, List.set_cons_zero, List.set_cons_succ]
  refine take_on (i := 1) (v := ?_) rfl (by kernel_rfl) (by kernel_rfl) (by kernel_rfl) (fun _ _ _ h => h) (by rfl) (by assumption) ?_ ?_
  rotate_left
  ·((intro w hSw; (try dsimp only at hSw); go_simp <;> with_reducible rfl); done)
  try simp only [Act.put, List.setIfInBounds_toArray, List.set_cons_zero, List.set_cons_succ]
  refine take_on (i := 2) (v := ?_) rfl (by kernel_rfl) (by kernel_rfl) (by kernel_rfl) (fun _ _ _ h => h) (by rfl) (by assumption) ?_ ?_
  rotate_left
  ·((intro w hSw; (try dsimp only at hSw); go_simp <;> with_reducible rfl); done)
  try simp only [Act.put, List.setIfInBounds_toArray, List.set_cons_zero, List.set_cons_succ]
  refine take_on (i := 3) (v := ?_) rfl (by kernel_rfl) (by kernel_rfl) (by kernel_rfl) (fun _ _ _ h => h) (by rfl) (by assumption) ?_ ?_
  rotate_left
  ·((intro w hSw; (try dsimp only at hSw); go_simp <;> with_reducible rfl); done)
  try simp only [Act.put, List.setIfInBounds_toArray, List.set_cons_zero, List.set_cons_succ]
  refine take_on (i := 4) (v := ?_) rfl (by kernel_rfl) (by kernel_rfl) (by kernel_rfl) (fun _ _ _ h => h) (by rfl) (by assumption) ?_ ?_
  rotate_left
  ·((intro w hSw; (try dsimp only at hSw); go_simp <;> with_reducible rfl); done)
  try simp only [Act.put, List.setIfInBounds_toArray, List.set_cons_zero, List.set_cons_succ]
  refine take_on (i := 5) (v := ?_) rfl (by kernel_rfl) (by kernel_rfl) (by kernel_rfl) (fun _ _ _ h => h) (by rfl) (by assumption) ?_ ?_
  rotate_left
  ·((intro w hSw; (try dsimp only at hSw); go_simp <;> with_reducible rfl); done)
  try simp only [Act.put, List.setIfInBounds_toArray, List.set_cons_zero, List.set_cons_succ]
  refine take_on (i := 6) (v := ?_) rfl (by kernel_rfl) (by kernel_rfl) (by kernel_rfl) (fun _ _ _ h => h) (by rfl) (by assumption) ?_ ?_
  rotate_left
  ·((intro w hSw; (try dsimp only at hSw); go_simp <;> with_reducible rfl); done)
  try simp only [Act.put, List.setIfInBounds_toArray, List.set_cons_zero, List.set_cons_succ]
  refine take_on (i := 7) (v := ?_) rfl (by kernel_rfl) (by kernel_rfl) (by kernel_rfl) (fun _ _ _ h => h) (by rfl) (by assumption) ?_ ?_
  rotate_left
  ·((intro w hSw; (try dsimp only at hSw); go_simp <;> with_reducible rfl); done)
  try simp only [Act.put, List.setIfInBounds_toArray, List.set_cons_zero, List.set_cons_succ]
  refine take_on (i := 8) (v := ?_) rfl (by kernel_rfl) (by kernel_rfl) (by kernel_rfl) (fun _ _ _ h => h) (by rfl) (by assumption) ?_ ?_
  rotate_left
  ·((intro w hSw; (try dsimp only at hSw); go_simp <;> with_reducible rfl); done)
  try simp only [Act.put, List.setIfInBounds_toArray, List.set_cons_zero, List.set_cons_succ]
  refine take_on (i := 9) (v := ?_) rfl (by kernel_rfl) (by kernel_rfl) (by kernel_rfl) (fun _ _ _ h => h) (by rfl) (by assumption) ?_ ?_
  rotate_left
  ·((intro w hSw; (try dsimp only at hSw); go_simp <;> with_reducible rfl); done)
  try simp only [Act.put, List.setIfInBounds_toArray, List.set_cons_zero, List.set_cons_succ]
  refine wpAnyH_done (by kernel_rfl) ?_ _
  have HCB := gI (HCA.out.keep (Keeps.refl [] w).drew)
  obtain ⟨wa, hwa⟩ : ∃ wa, wa = w.drew := ⟨_, rfl⟩
  have HWA := gI (show Keeps [] w wa by rw [hwa]; exact (Keeps.refl [] w).drew)
  rw [← hwa] at HCB ⊢
  clear hwa hHeld n2 n3 n4 n5
  obtain ⟨_, _, _, _, n4, _, _, _⟩ := HAT.out wa (HKT.out _ _ _ _ HCB.out)
  go_upto_region 9 with fail
  go_loopw [6, 38] (fun v6 v38 wr => ∃ k : Nat, v38 = .int .i64 k ∧ k ≤ 1 ∧ RL2 w0 bc wa a cs code wr k v6) (fun _ v38 _ => 1 - (intOf v38).toNat)
  case atStart => exact ⟨0, rfl, by omega, .inl ⟨rfl, rfl, rfl⟩⟩
  case round =>
   obtain ⟨k, rfl, hk1, hrl⟩ := hrel
   obtain ⟨wB, hwB⟩ : ∃ wB : World, wB = wr := ⟨_, rfl⟩
   subst hwB
   rcases hrl with ⟨rfl, rfl, hwb⟩ | ⟨rfl, gs, cp, new, a2, c2, rfl, hgs, hgn, hga, hnew, hcs⟩
   ·have hwb2 := hwb.symm
    clear hwb
    subst hwb2
    have p0 := (HEV.out wa HCB.out.kp).p
    have HPUT := gI (put_any insZ wa HCB.out (by omega) (spIn_nil _ _) (fun y hy => by cases hy))
    simp only [insZ, List.length_nil] at HPUT
    clear n4
    go_wp2_with fail
    with_reducible refine Calls.mono HPUT.out ?_
    rintro e wb ⟨rfl, a1, c1, hcs1⟩
    have HCS1 := gI hcs1
    have HLT := gI (show ∀ g, a1 = some g → g < wb.heap.size from fun g hg => by have h1 := hcs1.ca.sl; rw [hg] at h1; exact h1.lt)
    clear hcs1 p0
    go_wp2_with (at_builtin; refine wpList_append_sl rfl (.tmp 40) (.tmp 44) 22 rfl 3 ii _ 1 8 Tryz.underlying22 HI.out.1 HI.out.2.1 HI.out.2.2.1 HI.out.2.2.2 rfl (by decide) none 0 0 [] rfl (SliceAt.nil _ _ _) ⟨wb.heap.size, 0, none⟩ 1 1 [.int .i64 (cs.length : Nat)] rfl rfl (news_row' _ _ _ _ rfl) (int_one _) (by decide) (by omega) (by omega) ?hk)
    case hk =>
     intro gs cp w7 hs7 hk7 hg7
     try simp only [Nat.zero_add, List.nil_append] at hs7
     have hgs : wb.heap.size + 1 ≤ gs := by simpa using hg7
     have hkw : Keeps [] wb w7 := (Keeps.a1 wb _).trans hk7
     have HC7 := gI (HCS1.out.keep hkw)
     have HS7 := gI hs7
     have HGS := gI (show wb.heap.size ≤ gs ∧ w0.heap.size ≤ gs ∧ a1 ≠ some gs from ⟨by omega, by have h1 := HCS1.out.ca.kp.size; omega, fun e => by have := HLT.out gs e; omega⟩)
     clear hs7 hk7 hg7 hgs hkw
     obtain ⟨_, _, n2, _, _, _, _, _⟩ := HAT.out w7 (HKT.out _ _ _ _ HC7.out.ca)
     have e0 := (HEV.out w7 HC7.out.ca.kp).w_
     have HLW := gI (HIH.out (cs ++ [insZ]) a1 c1 w7.drew (HC7.out.ca.keep (Keeps.refl [] w7).drew) (by rw [HCO.out]; simp) (by simp; omega))
     go_upto_region 11 with fail
     refine wp_region_held_drew (S := fun W => W.cell? ⟨bw, 0, none⟩ = some (.func (Fn.func 82) #[] #[.pointer (some ⟨bp, 0, none⟩), .pointer (some ⟨bw, 0, none⟩), .pointer (some ⟨ba, 0, none⟩), .pointer (some ⟨br, 0, none⟩)]) ∧ W.cell? ⟨b, o + 2, none⟩ = some (.slice (some ⟨kb, ko, none⟩) 1 kc)) (by kernel_rfl) ⟨e0, n2⟩ (fun hHeld => ?_)
     clear e0 n2
     refine take_on (i := 0) (v := ?_) rfl (by kernel_rfl) (by kernel_rfl) (by kernel_rfl) (fun _ _ _ h => h) (by rfl) (by assumption) ?_ ?_
     rotate_left
     ·((intro w hSw; (try dsimp only at hSw); go_simp <;> with_reducible rfl); done)
     try simp only [Act.put, List.setIfInBounds_toArray, List.set_cons_zero, List.set_cons_succ]
     refine take_on (i := 1) (v := ?_) rfl (by kernel_rfl) (by kernel_rfl) (by kernel_rfl) (fun _ _ _ h => h) (by rfl) (by assumption) ?_ ?_
     rotate_left
     ·((intro w hSw; (try dsimp only at hSw); go_simp <;> with_reducible rfl); done)
     try simp only [Act.put, List.setIfInBounds_toArray, List.set_cons_zero, List.set_cons_succ]
     refine take_on (i := 2) (v := ?_) rfl (by kernel_rfl) (by kernel_rfl) (by kernel_rfl) (fun _ _ _ h => h) (by rfl) (by assumption) ?_ ?_
     rotate_left
     ·((intro w hSw; (try dsimp only at hSw); go_simp <;> with_reducible rfl); done)
     try simp only [Act.put, List.setIfInBounds_toArray, List.set_cons_zero, List.set_cons_succ]
     refine take_on (i := 3) (v := ?_) rfl (by kernel_rfl) (by kernel_rfl) (by kernel_rfl) (fun _ _ _ h => h) (by rfl) (by assumption) ?_ ?_
     rotate_left
     ·((intro w hSw; (try dsimp only at hSw); go_simp <;> with_reducible rfl); done)
     try simp only [Act.put, List.setIfInBounds_toArray, List.set_cons_zero, List.set_cons_succ]
     refine take_on (i := 4) (v := ?_) rfl (by kernel_rfl) (by kernel_rfl) (by kernel_rfl) (fun _ _ _ h => h) (by rfl) (by assumption) ?_ ?_
     rotate_left
     ·((intro w hSw; (try dsimp only at hSw); go_simp <;> with_reducible rfl); done)
     try simp only [Act.put, List.setIfInBounds_toArray, List.set_cons_zero, List.set_cons_succ]
     refine take_on (i := 5) (v := ?_) rfl (by kernel_rfl) (by kernel_rfl) (by kernel_rfl) (fun _ _ _ h => h) (by rfl) (by assumption) ?_ ?_
     rotate_left
     ·((intro w hSw; (try dsimp only at hSw); go_simp <;> with_reducible rfl); done)
     try simp only [Act.put, List.setIfInBounds_toArray, List.set_cons_zero, List.set_cons_succ]
     refine branch_one (i := 6) rfl (by kernel_rfl) (by rfl) (fun K hK => ?_)
     go_simp
     with_reducible refine Calls.mono HLW.out ?_
     rintro e w8 ⟨rfl, new, a3, c3, hnew, hcs3⟩
     have HC8 := gI ((HC7.out.keep (Keeps.refl [] w7).drew).trans hcs3)
     have HNEW := gI hnew
     have HSG := gI (show SliceAt w8 3 1 (some gs) 1 cp [.int .i64 (cs.length : Nat)] ∧ a3 ≠ some gs from by
      have hg := HGS.out
      have hbb := HC7.out.ca.lt
      refine ⟨(HS7.out.keep (Keeps.refl [] w7).drew (by simp)).keep hcs3.kp (fun q hq hm => ?_), fun e => ?_⟩
      ·cases hq
       rcases List.mem_cons.1 hm with h | h
       ·omega
       ·exact hg.2.2 (by simpa using h)
      ·rcases hcs3.na with h | h
       ·exact hg.2.2 (by rw [← h, e])
       ·have h1 := h gs e
        have h2 := HS7.out.lt
        have h3 : w7.drew.heap.size = w7.heap.size := rfl
        omega)
     have e8 := (HEV.out w8 HC8.out.ca.kp).w_
     obtain ⟨_, _, m2, _, _, _, _, _⟩ := HAT.out w8 (HKT.out _ _ _ _ HC8.out.ca)
     clear hnew hcs3
     refine hK.out _ _ (⟨e8, m2⟩) (fun hHeld => ?_)
     clear hK K
     try simp only [Act.put, List.setIfInBounds_toArray, List.set_cons_zero, List.set_cons_succ]
     refine wpAnyH_done (by kernel_rfl) ?_ _
     clear hHeld e8 m2
     go_wp2
     go_roundw
     case rel => exact ⟨1, by go_num, by omega, .inr ⟨rfl, gs, cp, new, a3, c3, rfl, HSG.out.1, HGS.out.2.1, HSG.out.2, HNEW.out, by have h := HC8.out; rw [List.append_assoc] at h; exact h⟩⟩
     case measure => simp [intOf]
   ·have HGS := gI hgs
    have HGA := gI (And.intro hgn hga)
    have HNEW := gI hnew
    have HCS := gI hcs
    have hln : new.length = code.length := by rw [← hnew, List.length_map]
    have HLN := gI hln
    have g0 : wB.cell? ⟨gs, 0, none⟩ = some (.int .i64 (cs.length : Nat)) := hgs.cell 0 (by simp)
    obtain ⟨_, _, _, _, n4', _, _, _⟩ := HAT.out wB (HKT.out _ _ _ _ hcs.ca)
    have p0 := (HEV.out wB hcs.ca.kp).p
    have HPUT := gI (put_any ⟨3, (cs.length : Nat), 0, 0, none, 0, []⟩ wB.drew (hcs.ca.keep (Keeps.refl [] wB).drew) (by simp; omega) (spIn_nil _ _) (fun y hy => by cases hy))
    simp only [List.length_nil] at HPUT
    clear hgs hgn hga hnew hcs hln n4
    go_upto_region 14 with fail
    refine wp_region_held_drew (S := fun W => W.cell? ⟨bp, 0, none⟩ = some (.func (Fn.func 78) #[] #[.pointer (some ⟨bc, 0, none⟩)]) ∧ W.cell? ⟨gs, 0, none⟩ = some (.int .i64 (cs.length : Nat))) (by kernel_rfl) ⟨p0, g0⟩ (fun hHeld => ?_)
    clear p0 g0 n4'
    refine take_on (i := 0) (v := ?_) rfl (by kernel_rfl) (by kernel_rfl) (by kernel_rfl) (fun _ _ _ h => h) (by rfl) (by assumption) ?_ ?_
    rotate_left
    ·((intro w hSw; (try dsimp only at hSw); go_simp <;> with_reducible rfl); done)
    try simp only [Act.put, List.setIfInBounds_toArray, List.set_cons_zero, List.set_cons_succ]
    refine take_on (i := 1) (v := ?_) rfl (by kernel_rfl) (by kernel_rfl) (by kernel_rfl) (fun _ _ _ h => h) (by rfl) (by assumption) ?_ ?_
    rotate_left
    ·((intro w hSw; (try dsimp only at hSw); go_simp <;> with_reducible rfl); done)
    try simp only [Act.put, List.setIfInBounds_toArray, List.set_cons_zero, List.set_cons_succ]
    refine take_on (i := 2) (v := ?_) rfl (by kernel_rfl) (by kernel_rfl) (by kernel_rfl) (fun _ _ _ h => h) (by rfl) (by assumption) ?_ ?_
    rotate_left
    ·((intro w hSw; (try dsimp only at hSw); go_simp <;> with_reducible rfl); done)
    try simp only [Act.put, List.setIfInBounds_toArray, List.set_cons_zero, List.set_cons_succ]
    refine take_on (i := 3) (v := ?_) rfl (by kernel_rfl) (by kernel_rfl) (by kernel_rfl) (fun _ _ _ h => h) (by rfl) (by assumption) ?_ ?_
    rotate_left
    ·((intro w hSw; (try dsimp only at hSw); go_simp <;> with_reducible rfl); done)
    try simp only [Act.put, List.setIfInBounds_toArray, List.set_cons_zero, List.set_cons_succ]
    refine take_on (i := 4) (v := ?_) rfl (by kernel_rfl) (by kernel_rfl) (by kernel_rfl) (fun _ _ _ h => h) (by rfl) (by assumption) ?_ ?_
    rotate_left
    ·((intro w hSw; (try dsimp only at hSw); go_simp <;> with_reducible rfl); done)
    try simp only [Act.put, List.setIfInBounds_toArray, List.set_cons_zero, List.set_cons_succ]
    refine branch_one (i := 5) rfl (by kernel_rfl) (by rfl) (fun K hK => ?_)
    go_simp
    with_reducible refine Calls.mono HPUT.out ?_
    rintro e wD ⟨he, a4, c4, hcs4⟩
    obtain ⟨pl, hpl⟩ : ∃ q, q = (cs ++ insZ :: new).length := ⟨_, rfl⟩
    rw [← hpl] at he
    subst he
    clear hpl
    have HC4 := gI ((HCS.out.keep (Keeps.refl [] wB).drew).trans hcs4)
    have HG4 := gI (show SliceAt wD 3 1 (some gs) 1 cp [.int .i64 (cs.length : Nat)] from by
     have hg := HGA.out
     have hbb := HCS.out.ca.lt
     refine (HGS.out.keep (Keeps.refl [] wB).drew (by simp)).keep hcs4.kp (fun q hq hm => ?_)
     cases hq
     rcases List.mem_cons.1 hm with h | h
     ·omega
     ·exact hg.2 (by simpa using h))
    have p0 := (HEV.out wD HC4.out.ca.kp).p
    have g0 : wD.cell? ⟨gs, 0, none⟩ = some (.int .i64 (cs.length : Nat)) := HG4.out.cell 0 (by simp)
    clear hcs4
    refine hK.out _ _ (⟨p0, g0⟩) (fun hHeld => ?_)
    clear hK K
    try simp only [Act.put, List.setIfInBounds_toArray, List.set_cons_zero, List.set_cons_succ]
    refine wpAnyH_done (by kernel_rfl) ?_ _
    clear hHeld p0 g0
    obtain ⟨i2, hi2⟩ : ∃ i : Ins, i = ⟨2, ((cs.length + 1 : Nat) : Int), ((cs.length + 2 + code.length : Nat) : Int), 0, none, 0, []⟩ := ⟨_, rfl⟩
    obtain ⟨i3, hi3⟩ : ∃ i : Ins, i = ⟨3, (cs.length : Nat), 0, 0, none, 0, []⟩ := ⟨_, rfl⟩
    have hl4 : (cs ++ insZ :: new ++ [i3]).length = cs.length + 2 + code.length := by simp [HLN.out]; omega
    rw [← hi3] at HC4
    have hset : (cs ++ insZ :: new ++ [i3]).set cs.length i2 = cs ++ (i2 :: new ++ [i3]) := by
     rw [List.append_assoc, List.set_append_right _ _ (Nat.le_refl _), Nat.sub_self]
     rfl
    obtain ⟨cs4, hcs4⟩ : ∃ l, l = cs ++ insZ :: new ++ [i3] := ⟨_, rfl⟩
    rw [← hcs4] at HC4 hl4 hset
    obtain ⟨g4, hg4⟩ := sl_someP HC4.out.ca.sl (by omega)
    subst hg4
    have HSET := gI hset
    have HL4 := gI hl4
    have HI2 := gI hi2
    have HI3 := gI hi3
    clear hi2 hi3 hset hcs4 hl4
    go_upto_region 16 with fail
    go_loopw [67] (fun v67 wr => ∃ k : Nat, v67 = .int .i64 k ∧ ((k = 0 ∧ wr = wD) ∨ (k = 1 ∧ CGw w0 bc wa a wr (cs ++ (i2 :: new ++ [i3])) (some g4) c4))) (fun v67 _ => 1 - (intOf v67).toNat)
    case atStart => exact ⟨0, rfl, .inl ⟨rfl, rfl⟩⟩
    case round =>
     obtain ⟨k, rfl, hrl⟩ := hrel
     obtain ⟨wE, hwE⟩ : ∃ wE : World, wE = wr := ⟨_, rfl⟩
     subst hwE
     rcases hrl with ⟨rfl, hwb⟩ | ⟨rfl, hfin⟩
     ·have hwb2 := hwb.symm
      clear hwb
      subst hwb2
      have g0 : wD.cell? ⟨gs, 0, none⟩ = some (.int .i64 (cs.length : Nat)) := HG4.out.cell 0 (by simp)
      obtain ⟨_, _, _, _, _, m5, _, _⟩ := HAT.out wD (HKT.out _ _ _ _ HC4.out.ca)
      obtain ⟨b0, _⟩ := HC4.out.ca.cell
      rw [HL4.out] at b0
      simp only [Option.map_some] at b0
      go_upto_region 18 with fail
      clear g0
      obtain ⟨T, hT⟩ : ∃ T, T = cs.length + 2 + code.length := ⟨_, rfl⟩
      have HT := gI hT
      rw [← hT] at b0
      have hTb : cs.length < T := by omega
      have hTi : (cs.length : Int) < (T : Int) := by omega
      have hw1 : IntKind.i64.wrap ((cs.length : Int) + 1) = (cs.length : Int) + 1 := IntWalk.i64_in _ (by omega)
      have HSPL := gI (splitP_any ((cs.length : Int) + 1) (T : Int) wD.drew)
      clear hT
      refine wp_region_held_drew (S := fun W => W.cell? ⟨bc, 0, none⟩ = some (.slice (some ⟨g4, 0, none⟩) T c4) ∧ W.cell? ⟨b, o + 5, none⟩ = some (.int .i64 0)) (by kernel_rfl) ⟨b0, m5⟩ (fun hHeld => ?_)
      clear b0 m5
      refine take_on (i := 0) (v := ?_) rfl (by kernel_rfl) (by kernel_rfl) (by kernel_rfl) (fun _ _ _ h => h) (by rfl) (by assumption) ?_ ?_
      rotate_left
      ·((intro w hSw; (try dsimp only at hSw); go_simp <;> with_reducible rfl); done)
      try simp only [Act.put, List.setIfInBounds_toArray, List.set_cons_zero, List.set_cons_succ]
      refine take_on (i := 1) (v := ?_) rfl (by kernel_rfl) (by kernel_rfl) (by kernel_rfl) (fun _ _ _ h => h) (by rfl) (by assumption) ?_ ?_
      rotate_left
      ·((intro w hSw; (try dsimp only at hSw); go_simp <;> with_reducible rfl); done)
      try simp only [Act.put, List.setIfInBounds_toArray, List.set_cons_zero, List.set_cons_succ]
      refine take_on (i := 2) (v := ?_) rfl (by kernel_rfl) (by kernel_rfl) (by kernel_rfl) (fun _ _ _ h => h) (by rfl) (by assumption) ?_ ?_
      rotate_left
      ·((intro w hSw; (try dsimp only at hSw); go_simp <;> with_reducible rfl); done)
      try simp only [Act.put, List.setIfInBounds_toArray, List.set_cons_zero, List.set_cons_succ]
      refine take_on (i := 3) (v := ?_) rfl (by kernel_rfl) (by kernel_rfl) (by kernel_rfl) (fun _ _ _ h => h) (by rfl) (by assumption) ?_ ?_
      rotate_left
      ·((intro w hSw; (try dsimp only at hSw); go_simp <;> with_reducible rfl); done)
      try simp only [Act.put, List.setIfInBounds_toArray, List.set_cons_zero, List.set_cons_succ]
      refine take_on (i := 4) (v := ?_) rfl (by kernel_rfl) (by kernel_rfl) (by kernel_rfl) (fun _ _ _ h => h) (by rfl) (by assumption) ?_ ?_
      rotate_left
      ·((intro w hSw; (try dsimp only at hSw); go_simp <;> with_reducible rfl); done)
      try simp only [Act.put, List.setIfInBounds_toArray, List.set_cons_zero, List.set_cons_succ]
      refine take_on (i := 5) (v := ?_) rfl (by kernel_rfl) (by kernel_rfl) (by kernel_rfl) (fun _ _ _ h => h) (by rfl) (by assumption) ?_ ?_
      rotate_left
      ·((intro w hSw; (try dsimp only at hSw); go_simp <;> with_reducible rfl); done)
      try simp only [Act.put, List.setIfInBounds_toArray, List.set_cons_zero, List.set_cons_succ]
      refine take_on (i := 6) (v := ?_) rfl (by kernel_rfl) (by kernel_rfl) (by kernel_rfl) (fun _ _ _ h => h) (by rfl) (by assumption) ?_ ?_
      rotate_left
      ·((intro w hSw; (try dsimp only at hSw); go_simp <;> with_reducible rfl); done)
      try simp only [Act.put, List.setIfInBounds_toArray, List.set_cons_zero, List.set_cons_succ]
      refine take_on (i := 7) (v := ?_) rfl (by kernel_rfl) (by kernel_rfl) (by kernel_rfl) (fun _ _ _ h => h) (by rfl) (by assumption) ?_ ?_
      rotate_left
      ·((intro w hSw; (try dsimp only at hSw); go_simp <;> with_reducible rfl); done)
      try simp only [Act.put, List.setIfInBounds_toArray, List.set_cons_zero, List.set_cons_succ]
      refine take_on (i := 8) (v := ?_) rfl (by kernel_rfl) (by kernel_rfl) (by kernel_rfl) (fun _ _ _ h => h) (by rfl) (by assumption) ?_ ?_
      rotate_left
      ·((intro w hSw; (try dsimp only at hSw); go_simp <;> with_reducible rfl); done)
      try simp only [Act.put, List.setIfInBounds_toArray, List.set_cons_zero, List.set_cons_succ]
      refine take_on (i := 9) (v := ?_) rfl (by kernel_rfl) (by kernel_rfl) (by kernel_rfl) (fun _ _ _ h => h) (by rfl) (by assumption) ?_ ?_
      rotate_left
      ·((intro w hSw; (try dsimp only at hSw); go_simp <;> with_reducible rfl); done)
      try simp only [Act.put, List.setIfInBounds_toArray, List.set_cons_zero, List.set_cons_succ]
      refine branch_one (i := 10) rfl (by kernel_rfl) (by rfl) (fun K hK => ?_)
      go_simp
      with_reducible refine Calls.mono HSPL.out ?_
      rintro e v1 ⟨rfl, hk5⟩
      have HC5 := gI (HC4.out.keep ((Keeps.refl [] wD).drew.trans hk5))
      obtain ⟨_, _, _, _, _, m5, _, _⟩ := HAT.out v1 (HKT.out _ _ _ _ HC5.out.ca)
      obtain ⟨b0, _⟩ := HC5.out.ca.cell
      rw [HL4.out, ← HT.out] at b0
      simp only [Option.map_some] at b0
      have hfl : (flatI cs4).length = T * 5 := by rw [flatI_length, HL4.out, ← HT.out]
      obtain ⟨v0_, d0⟩ : ∃ v, v1.cell? ⟨g4, cs.length * 5, none⟩ = some v := ⟨_, HC5.out.ca.sl.cell (cs.length * 5) (by rw [hfl]; omega)⟩
      obtain ⟨v1_, d1⟩ : ∃ v, v1.cell? ⟨g4, cs.length * 5 + 1, none⟩ = some v := ⟨_, HC5.out.ca.sl.cell (cs.length * 5 + 1) (by rw [hfl]; omega)⟩
      obtain ⟨v2_, d2⟩ : ∃ v, v1.cell? ⟨g4, cs.length * 5 + 2, none⟩ = some v := ⟨_, HC5.out.ca.sl.cell (cs.length * 5 + 2) (by rw [hfl]; omega)⟩
      obtain ⟨v3_, d3⟩ : ∃ v, v1.cell? ⟨g4, cs.length * 5 + 3, none⟩ = some v := ⟨_, HC5.out.ca.sl.cell (cs.length * 5 + 3) (by rw [hfl]; omega)⟩
      obtain ⟨v4_, d4⟩ : ∃ v, v1.cell? ⟨g4, cs.length * 5 + 4, none⟩ = some v := ⟨_, HC5.out.ca.sl.cell (cs.length * 5 + 4) (by rw [hfl]; omega)⟩
      have df := HC5.out.ca.sl.fz
      have df0 := df (cs.length * 5)
      have df1 := df (cs.length * 5 + 1)
      have df2 := df (cs.length * 5 + 2)
      have df3 := df (cs.length * 5 + 3)
      have df4 := df (cs.length * 5 + 4)
      have hcs6 := HC5.out.trans (HC5.out.ca.set cs.length (by rw [HL4.out, ← HT.out]; exact hTb) ((cs.length : Int) + 1) (T : Int))
      obtain ⟨wF, hwF⟩ : ∃ wF, wF = ((((v1.setCell ⟨g4, cs.length * 5, none⟩ (.int .i64 2)).setCell ⟨g4, cs.length * 5 + 1, none⟩ (.int .i64 ((cs.length : Int) + 1))).setCell ⟨g4, cs.length * 5 + 2, none⟩ (.int .i64 (T : Int))).setCell ⟨g4, cs.length * 5 + 3, none⟩ (.int .i64 0)).setCell ⟨g4, cs.length * 5 + 4, none⟩ (.slice none 0 0) := ⟨_, rfl⟩
      rw [← hwF] at hcs6
      have he2 : (⟨2, (cs.length : Int) + 1, (T : Int), 0, none, 0, []⟩ : Ins) = i2 := by rw [HI2.out, HT.out]; simp
      rw [he2, HSET.out] at hcs6
      have HC6 := gI hcs6
      have HWF := gI hwF
      clear hk5 hfl df hcs6 hwF he2
      refine hK.out _ _ (⟨b0, m5⟩) (fun hHeld => ?_)
      clear hK K
      try simp only [Act.put, List.setIfInBounds_toArray, List.set_cons_zero, List.set_cons_succ]
      refine take_on (i := 11) (v := ?_) rfl (by kernel_rfl) (by kernel_rfl) (by kernel_rfl) (fun _ _ _ h => h) (by rfl) (by assumption) ?_ ?_
      rotate_left
      ·((intro w hSw; (try dsimp only at hSw); go_simp <;> with_reducible rfl); done)
      try simp only [Act.put, List.setIfInBounds_toArray, List.set_cons_zero, List.set_cons_succ]
      refine branch_one (i := 12) rfl (by kernel_rfl) (by rfl) (fun K hK => ?_)
      go_simp
      rw [← HWF.out]
      obtain ⟨_, _, _, _, _, m6, _, _⟩ := HAT.out wF (HKT.out _ _ _ _ HC6.out.ca)
      have hl6 : (cs ++ (i2 :: new ++ [i3])).length = T := by have := HLN.out; have := HT.out; simp; omega
      obtain ⟨b6, _⟩ := HC6.out.ca.cell
      rw [hl6] at b6
      simp only [Option.map_some] at b6
      refine hK.out _ _ (⟨b6, m6⟩) (fun hHeld => ?_)
      clear hK K
      try simp only [Act.put, List.setIfInBounds_toArray, List.set_cons_zero, List.set_cons_succ]
      refine wpAnyH_done (by kernel_rfl) ?_ _
      clear hHeld b0 m5 d0 d1 d2 d3 d4 df0 df1 df2 df3 df4 b6 m6 hl6
      go_wp2
      go_roundw
      case rel => exact ⟨1, by go_num, .inr ⟨rfl, HC6.out⟩⟩
      case measure => simp [intOf]
     ·have HFIN := gI hfin
      clear hfin
      go_wp2
      go_end0
      rw [HQ.out]
      exact ⟨rfl, i2 :: new ++ [i3], some g4, c4, by rw [HI2.out, HI3.out]; simp [insS, HNEW.out], ⟨HFIN.out.ca, (HWA.out.mono (by simp)).trans HFIN.out.kp, by rcases HFIN.out.na with h | h; exact .inl h; exact .inr (fun q hq => Nat.le_trans HWA.out.size (h q hq))⟩⟩
end Go.Proofs.YtkekenaamnhbhaaGreat
