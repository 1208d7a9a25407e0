/- Part 3 of the proof. No condition: every lemma says its own. -/
import Derived.Deep.RegionHeld3
import Derived.BigQuiet
import Derived.DeepKeys4
import Derived.Lib.QuietBelow
import Derived.Deep.DeepCutAuto
import Derived.Deep.CutBlock
import Derived.Deep.LoopGhost
import Derived.Test.YtkekenaamnhbhaaGreatZsaa
import Derived.Test.YtkekenaamnhbhaaGreatProg
import Derived.Test.YtkekenaamnhbhaaGreatZsab
namespace Go.Proofs.YtkekenaamnhbhaaGreat
open Go.RowKit
set_option maxRecDepth 100000
set_option maxHeartbeats 16000000
theorem take_on {P : Program} {Q : Exit → Act → World → Prop} {md : Region.Mode} {S : World → Prop} {l r : List Oper} {i : Nat} {oi : Oper} {v : Value} {fuel : Nat} {listed : Array Bool} {a : Act} {w : World}
  (hd : l.drop i = oi :: r) (hs : Region.noSelect l.toArray = true) (hf : Region.free md l.toArray listed i = true) (hr : (Region.ready md l.toArray listed).contains i = true)
  (hQ : ∀ c a w, Q (.panic c) (a.put oi.dst v) w → Q (.panic c) a w) (hw : Region.wanted oi (yielded l.toArray a.tmps) = true) (hS : S w)
  (hy : ∀ w, S w → (execOp a.eval oi).run P w = .ok (.value v) w)
  (h : wpAnyH P md l.toArray Q S fuel (listed.setIfInBounds i true) (a.put oi.dst v) w) : wpAnyH P md l.toArray Q S (fuel + 1) listed a w :=
 wpAnyH_take (by rw [List.getElem?_toArray, ← List.head?_drop, hd]; rfl) hs hf hr hQ (Or.inl ⟨hw, hy⟩) hS h
theorem take_off {P : Program} {Q : Exit → Act → World → Prop} {md : Region.Mode} {S : World → Prop} {l r : List Oper} {i : Nat} {oi : Oper} {fuel : Nat} {listed : Array Bool} {a : Act} {w : World}
  (hd : l.drop i = oi :: r) (hs : Region.noSelect l.toArray = true) (hf : Region.free md l.toArray listed i = true) (hr : (Region.ready md l.toArray listed).contains i = true)
  (hQ : ∀ c a w, Q (.panic c) (a.put oi.dst undef) w → Q (.panic c) a w) (hw : Region.wanted oi (yielded l.toArray a.tmps) = false) (hS : S w)
  (h : wpAnyH P md l.toArray Q S fuel (listed.setIfInBounds i true) (a.put oi.dst undef) w) : wpAnyH P md l.toArray Q S (fuel + 1) listed a w :=
 wpAnyH_take (by rw [List.getElem?_toArray, ← List.head?_drop, hd]; rfl) hs hf hr hQ (Or.inr ⟨hw, rfl⟩) hS h
theorem branch_one {P : Program} {Q : Exit → Act → World → Prop} {md : Region.Mode} {S : World → Prop} {l r : List Oper} {i : Nat} {oi : Oper} {fuel : Nat} {listed : Array Bool} {a : Act} {w : World}
  (hd : l.drop i = oi :: r) (hr : Region.ready md l.toArray listed = [i]) (hw : Region.wanted oi (yielded l.toArray a.tmps) = true)
  (h : ∀ K' : Act → World → Prop, Shut (∀ a w, S w → (S w → wpAnyH P md l.toArray Q S fuel (listed.setIfInBounds i true) a w) → K' a w) → Oper.wp P oi a w K' Q) :
  wpAnyH P md l.toArray Q S (fuel + 1) listed a w :=
 wpAnyH_ready hr (by simp) (AllReadyH.cons (by rw [List.getElem?_toArray, ← List.head?_drop, hd]; rfl) (fun K hK => by rw [if_pos hw]; exact h K hK) AllReadyH.nil)
theorem branch_two {P : Program} {Q : Exit → Act → World → Prop} {md : Region.Mode} {S : World → Prop} {l r r' : List Oper} {i j : Nat} {oi oj : Oper} {fuel : Nat} {listed : Array Bool} {a : Act} {w : World}
  (hd : l.drop i = oi :: r) (hd' : l.drop j = oj :: r') (hr : Region.ready md l.toArray listed = [i, j]) (hw : Region.wanted oi (yielded l.toArray a.tmps) = true) (hw' : Region.wanted oj (yielded l.toArray a.tmps) = true)
  (h : ∀ K' : Act → World → Prop, Shut (∀ a w, S w → (S w → wpAnyH P md l.toArray Q S fuel (listed.setIfInBounds i true) a w) → K' a w) → Oper.wp P oi a w K' Q)
  (h' : ∀ K' : Act → World → Prop, Shut (∀ a w, S w → (S w → wpAnyH P md l.toArray Q S fuel (listed.setIfInBounds j true) a w) → K' a w) → Oper.wp P oj a w K' Q) :
  wpAnyH P md l.toArray Q S (fuel + 1) listed a w :=
 wpAnyH_ready hr (by simp) (AllReadyH.cons (by rw [List.getElem?_toArray, ← List.head?_drop, hd]; rfl) (fun K hK => by rw [if_pos hw]; exact h K hK) (AllReadyH.cons (by rw [List.getElem?_toArray, ← List.head?_drop, hd']; rfl) (fun K hK => by rw [if_pos hw']; exact h' K hK) AllReadyH.nil))
theorem isnan_any (x : Int) (w : World) : Calls Tryz.prog 120 #[.int .i64 x] w fun e w' => e = .returned (.bool false) ∧ w = w' := by
 go_enter Tryz.func120, Tryz.ntmps120
 go_wp2
 go_ret
 exact ⟨by simp, rfl⟩
def cmpI (x y : Int) : Int := if x < y then -1 else if y < x then 1 else 0
theorem cmpI_neg (x y : Int) : (cmpI x y < 0) ↔ x < y := by unfold cmpI; split <;> (try split) <;> omega
theorem compare_any (x y : Int) (w : World) : Calls Tryz.prog 112 #[.int .i64 x, .int .i64 y] w fun e w' => e = .returned (.int .i64 (cmpI x y)) ∧ w = w' := by
 have HE := gI (show cmpI x y = if x < y then -1 else if y < x then 1 else 0 from rfl)
 generalize cmpI x y = r at *
 by_cases h1 : x < y
 ·go_enter Tryz.func112, Tryz.ntmps112
  go_wp2_with (go_at_call 120; refine (isnan_any _ _).mono ?_; rintro e w' ⟨rfl, rfl⟩)
  go_ret
  exact ⟨by rw [HE.out, if_pos h1]; rfl, rfl⟩
 by_cases h2 : y < x
 ·go_enter Tryz.func112, Tryz.ntmps112
  go_wp2_with (go_at_call 120; refine (isnan_any _ _).mono ?_; rintro e w' ⟨rfl, rfl⟩)
  go_ret
  exact ⟨by rw [HE.out, if_neg (by omega), if_pos h2]; rfl, rfl⟩
 ·go_enter Tryz.func112, Tryz.ntmps112
  go_wp2_with (go_at_call 120; refine (isnan_any _ _).mono ?_; rintro e w' ⟨rfl, rfl⟩)
  go_ret
  exact ⟨by rw [HE.out, if_neg (by omega), if_neg (by omega)]; rfl, rfl⟩
theorem triRow : (175 : TypeId) < Tryz.prog.types.size := of_decide_eq_true (by kernel_rfl)
theorem laidOutA : laidOutB Tryz.prog = true := by kernel_rfl
theorem triWide : (match Tryz.prog.underlying 175 with | some (.array _ _) | some (.struct _) => true | _ => false) = true := by rw [Tryz.underlying175]
theorem triKeyed : Maps.Keyed Tryz.prog 175 := Maps.Keyed.of_law (deep_law_laid laidOutA (m := 2) (by omega) triRow (by kernel_rfl) triWide)
theorem triDeep : Tryz.prog.keyType 175 = true := by kernel_rfl
theorem triCells : Tryz.prog.cellsOf 175 = 3 := by kernel_rfl
theorem intCells : Tryz.prog.cellsOf 3 = 1 := by kernel_rfl
theorem sizeTypes : ∃ d, Tryz.prog.types.size = d + 1 := ⟨Tryz.prog.types.size - 1, by have h : 0 < Tryz.prog.types.size := of_decide_eq_true (by kernel_rfl); omega⟩
def TOK (t : Tri) : Prop := (-9223372036854775808 ≤ t.1 ∧ t.1 ≤ 9223372036854775807) ∧ (-9223372036854775808 ≤ t.2.1 ∧ t.2.1 ≤ 9223372036854775807) ∧ (-9223372036854775808 ≤ t.2.2 ∧ t.2.2 ≤ 9223372036854775807)
theorem wf_i64 {x : Int} (h : -9223372036854775808 ≤ x ∧ x ≤ 9223372036854775807) : (Lit.int .i64 x).wf = true := by
 have e : IntKind.i64.min = -9223372036854775808 := rfl
 have e2 : IntKind.i64.max = 9223372036854775807 := rfl
 simp [Lit.wf, e, e2]
 omega
theorem key3 {t : Tri} (h : TOK t) : IsKey Tryz.prog 175 (triv t) := by
 obtain ⟨x, y, z⟩ := t
 obtain ⟨h1, h2, h3⟩ := h
 obtain ⟨d, hd⟩ := sizeTypes
 have hl : Tryz.prog.keyLits (d + 1 + 1) 175 [.int .i64 x, .int .i64 y, .int .i64 z] = some [.int .i64 x, .int .i64 y, .int .i64 z] := by
  simp [Program.keyLits, Tryz.underlying175, Tryz.underlying3, triCells, intCells, wf_i64 h1, wf_i64 h2, wf_i64 h3, List.range, List.range.loop]
 refine ⟨.string (keyBytes [.int .i64 x, .int .i64 y, .int .i64 z]), ?_⟩
 unfold keyOf
 rw [Tryz.underlying175]
 simp only [triDeep, Value.formed, Tryz.underlying175, triv, triCells, hd, Value.cells, hl]
 simp
theorem intKeyed : Maps.Keyed Tryz.prog 3 := Maps.int_keyed Tryz.underlying3
theorem keyI {x : Int} (h : -9223372036854775808 ≤ x ∧ x ≤ 9223372036854775807) : IsKey Tryz.prog 3 (.int .i64 x) := ⟨_, Maps.keyOf_int_mk Tryz.underlying3 (wf_i64 h)⟩
structure KeyEnv (w : World) (p mb n : Nat) (gm : Value → Option Value) : Prop where
 ptr : w.cell? ⟨p, 0, none⟩ = some (.map (some mb))
 map : MapAt w Tryz.prog 175 mb n gm
theorem KeyEnv.keep {w w' : World} {S : List Nat} {p mb n : Nat} {gm : Value → Option Value} (h : KeyEnv w p mb n gm) (k : Keeps S w w') (hp : p ∉ S) (hm : mb ∉ S) : KeyEnv w' p mb n gm := ⟨k.cell h.ptr hp, h.map.keep k hm⟩
def HasKey (gm : Value → Option Value) (key : Tri → Int) (t : Tri) : Prop := TOK t ∧ gm (triv t) = some (.int .i64 (-(key t)))
section
structure E4 where
 fr : Int
 tt : Int
 cl : Int
 ws : Int
deriving DecidableEq
structure Cl where
 a : Option Addr
 c : Nat
 sp : List (Int × Int)
structure Gr where
 ca : Option Addr
 cc : Nat
 cls : List Cl
 na : Option Addr
 nc : Nat
 nodes : List Int
 fa : Option Addr
 fc : Nat
 first : List Int
 ea : Option Addr
 ec : Nat
 edges : List E4
def Gr.row (x : Gr) : List Value := [.slice x.ca x.cls.length x.cc, .slice x.na x.nodes.length x.nc, .slice x.fa x.first.length x.fc, .slice x.ea x.edges.length x.ec]
def Gr.val (x : Gr) : Value := .agg #[.slice x.ca x.cls.length x.cc, .slice x.na x.nodes.length x.nc, .slice x.fa x.first.length x.fc, .slice x.ea x.edges.length x.ec]
def SpIn (w : World) (a : Option Addr) (l : List (Int × Int)) : Prop := 0 < l.length → ∃ b off, a = some ⟨b, off, none⟩ ∧ ∀ i (h : i < l.length), w.cell? ⟨b, off + i * 2, none⟩ = some (.int .i64 l[i].1) ∧ w.cell? ⟨b, off + i * 2 + 1, none⟩ = some (.int .i64 l[i].2)
def ClsIn (w : World) (a : Option Addr) (l : List Cl) : Prop := 0 < l.length → ∃ b off, a = some ⟨b, off, none⟩ ∧ ∀ i (h : i < l.length), w.cell? ⟨b, off + i, none⟩ = some (.slice l[i].a l[i].sp.length l[i].c)
def EdIn (w : World) (a : Option Addr) (l : List E4) : Prop := 0 < l.length → ∃ b off, a = some ⟨b, off, none⟩ ∧ ∀ i (h : i < l.length), w.cell? ⟨b, off + i * 4, none⟩ = some (.int .i64 l[i].fr) ∧ w.cell? ⟨b, off + i * 4 + 1, none⟩ = some (.int .i64 l[i].tt) ∧
 w.cell? ⟨b, off + i * 4 + 2, none⟩ = some (.int .i64 l[i].cl) ∧ w.cell? ⟨b, off + i * 4 + 3, none⟩ = some (.int .i64 l[i].ws)
variable {w w' : World} {a : Option Addr}
theorem SpIn.keep {l : List (Int × Int)} (h : SpIn w a l) (k : Keeps [] w w') : SpIn w' a l := fun h0 => by
 obtain ⟨b, off, e, hc⟩ := h h0
 exact ⟨b, off, e, fun i hi => ⟨k.cell (hc i hi).1 (by simp), k.cell (hc i hi).2 (by simp)⟩⟩
theorem ClsIn.keep {l : List Cl} (h : ClsIn w a l) (k : Keeps [] w w') : ClsIn w' a l := fun h0 => by
 obtain ⟨b, off, e, hc⟩ := h h0
 exact ⟨b, off, e, fun i hi => k.cell (hc i hi) (by simp)⟩
theorem EdIn.keep {l : List E4} (h : EdIn w a l) (k : Keeps [] w w') : EdIn w' a l := fun h0 => by
 obtain ⟨b, off, e, hc⟩ := h h0
 exact ⟨b, off, e, fun i hi => ⟨k.cell (hc i hi).1 (by simp), k.cell (hc i hi).2.1 (by simp), k.cell (hc i hi).2.2.1 (by simp), k.cell (hc i hi).2.2.2 (by simp)⟩⟩
theorem IntsIn.keep {l : List Int} (h : IntsIn w a l) (k : Keeps [] w w') : IntsIn w' a l := fun h0 => by
 obtain ⟨b, off, e, hc⟩ := h h0
 exact ⟨b, off, e, fun i hi => k.cell (hc i hi) (by simp)⟩
def M64 (x : Int) : Prop := -9223372036854775808 ≤ x ∧ x ≤ 9223372036854775807
structure GrIn (w : World) (x : Gr) : Prop where
 cls : ClsIn w x.ca x.cls
 sp : ∀ k ∈ x.cls, SpIn w k.a k.sp
 nodes : IntsIn w x.na x.nodes
 first : IntsIn w x.fa x.first
 edges : EdIn w x.ea x.edges
 lc : x.cls.length ≤ 1000000000000
 ln : x.nodes.length ≤ 1000000000000
 lf : x.first.length ≤ 1000000000000
 le : x.edges.length ≤ 1000000000000
 ls : ∀ k ∈ x.cls, k.sp.length ≤ 1000000000000
theorem GrIn.keep {x : Gr} (h : GrIn w x) (k : Keeps [] w w') : GrIn w' x :=
 ⟨h.cls.keep k, fun c hc => (h.sp c hc).keep k, h.nodes.keep k, h.first.keep k, h.edges.keep k, h.lc, h.ln, h.lf, h.le, h.ls⟩
theorem Keeps.a1 (w : World) (o : Obj) : Keeps [] w (w.alloc o) := (Keeps.refl [] w).alloc o
theorem row_cells4 {w : World} {b t : Nat} {x : Gr} (h : w.heap[b]? = some (.cells x.row.toArray t (0, 0))) : w.cell? ⟨b, 0, none⟩ = some (.slice x.ca x.cls.length x.cc) ∧ w.cell? ⟨b, 1, none⟩ = some (.slice x.na x.nodes.length x.nc) ∧
  w.cell? ⟨b, 2, none⟩ = some (.slice x.fa x.first.length x.fc) ∧ w.cell? ⟨b, 3, none⟩ = some (.slice x.ea x.edges.length x.ec) := by
 simp [World.cell?, h, Gr.row]
def rightB (s : Int × Int) : Bool := decide (0 ≤ s.1) && (decide (s.1 ≤ s.2) && decide (s.2 ≤ 1114111))
def behindB (pv : Option Int) (s : Int × Int) : Bool := match pv with | none => true | some h => !decide (s.1 < h + 2)
def setGo : Option Int → List (Int × Int) → Bool
 | _, [] => true
 | pv, s :: r => rightB s && (behindB pv s && setGo (some s.2) r)
def setE (l : List (Int × Int)) : Int := if setGo none l then (if l.length ≤ 64 then 0 else 4) else 1
def lastHi (l : List (Int × Int)) : Nat → Option Int
 | 0 => none
 | k + 1 => (l[k]?).map Prod.snd
theorem lastHi_succ {l : List (Int × Int)} {k : Nat} (h : k < l.length) : lastHi l (k + 1) = some l[k].2 := by
 show (l[k]?).map Prod.snd = _
 rw [List.getElem?_eq_getElem h]; rfl
end
end Go.Proofs.YtkekenaamnhbhaaGreat
