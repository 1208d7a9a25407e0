/- rules.neighbors and rules.pair over nodes, at a test that may write. Conditions: the nodes lie in memory. -/
import Derived.Test.YtgdmkddegcecaaaGreatSingle
namespace Go.Proofs.YtgdmkddegcecaaaGreat
open Go.RowKit

/-- The index of the first tree that fits the next one. -/
def nbO (p : Tree → Tree → Bool) : List Tree → Option Nat
  | x :: y :: r => if p x y = true then some 0 else (nbO p (y :: r)).map (· + 1)
  | _ => none
theorem nbO_drop (p : Tree → Tree → Bool) : ∀ (l : List Tree) (k : Nat), (∀ i (h : i + 1 < l.length), i < k → p l[i] l[i + 1] = false) → nbO p l = (nbO p (l.drop k)).map (· + k)
  | l, 0, _ => by simp
  | [], k + 1, _ => by simp [nbO]
  | [x], k + 1, _ => by simp [nbO]
  | x :: y :: r, k + 1, h => by
    have h0 : p x y = false := h 0 (by simp) (by omega)
    have hr := nbO_drop p (y :: r) k (fun i hi hk => h (i + 1) (by simpa using hi) (by omega))
    rw [nbO, if_neg (by simp [h0]), hr, List.drop_succ_cons]
    cases nbO p ((y :: r).drop k) with
    | none => rfl
    | some i => simp; omega
theorem nbO_some {p : Tree → Tree → Bool} {l : List Tree} {k : Nat} (hk : k + 1 < l.length) (h : ∀ i (h : i + 1 < l.length), i < k → p l[i] l[i + 1] = false) (hp : p l[k] l[k + 1] = true) : nbO p l = some k := by
  rw [nbO_drop p l k h, List.drop_eq_getElem_cons (by omega), List.drop_eq_getElem_cons (by omega), nbO, if_pos hp]
  simp
theorem nbO_none {p : Tree → Tree → Bool} {l : List Tree} (h : ∀ i (h : i + 1 < l.length), p l[i] l[i + 1] = false) : nbO p l = none := by
  rw [nbO_drop p l l.length (fun i hi _ => h i hi), List.drop_length]; rfl
theorem nbO_lt {p : Tree → Tree → Bool} : ∀ {l : List Tree} {k : Nat}, nbO p l = some k → k + 1 < l.length
  | [], k, h => by simp [nbO] at h
  | [x], k, h => by simp [nbO] at h
  | x :: y :: r, k, h => by
    rw [nbO] at h
    split at h
    · cases h; simp
    · cases hn : nbO p (y :: r) with
      | none => rw [hn] at h; simp at h
      | some i =>
        rw [hn] at h
        simp at h
        have := nbO_lt hn
        simp at this ⊢
        omega
/-- What neighbors hands back. -/
def NbPost (Inv : World → Prop) (Fin : Nat → World → Prop) (o : Option Nat) (e : Ending) (w' : World) : Prop :=
  match o with
  | none => e = .returned (.int .i64 (-1)) ∧ Inv w'
  | some i => e = .returned (.int .i64 i) ∧ Fin i w'
theorem NbPost.of_none {Inv : World → Prop} {Fin : Nat → World → Prop} {o : Option Nat} {e : Ending} {w' : World} (h : o = none) (he : e = .returned (.int .i64 (-1))) (hi : Inv w') : NbPost Inv Fin o e w' := by subst h; exact ⟨he, hi⟩
theorem NbPost.of_some {Inv : World → Prop} {Fin : Nat → World → Prop} {o : Option Nat} {i : Nat} {e : Ending} {w' : World} (h : o = some i) (he : e = .returned (.int .i64 i)) (hi : Fin i w') : NbPost Inv Fin o e w' := by subst h; exact ⟨he, hi⟩

/-- What a test of two kids does. -/
def TestOK (K : Nat) (cap : Array Value) (p : Tree → Tree → Bool) (kids : List MRe) (Inv : World → Prop) (Fin : Nat → World → Prop) : Prop :=
  ∀ i (h : i + 1 < kids.length), ∀ W, Inv W → Calls Tryz.prog K (#[kids[i].val, kids[i + 1].val] ++ cap) W fun e w' => e = .returned (.bool (p kids[i].tree kids[i + 1].tree)) ∧ (p kids[i].tree kids[i + 1].tree = false → Inv w') ∧ (p kids[i].tree kids[i + 1].tree = true → Fin i w')

set_option maxRecDepth 100000 in
set_option maxHeartbeats 4000000 in
theorem neighbors_any (K : Nat) (cap : Array Value) (p : Tree → Tree → Bool) (ka : Option Addr) (kc : Nat) (kids : List MRe) (w : World) (Inv : World → Prop) (Fin : Nat → World → Prop) (he : Enters K)
    (hi : Inv w) (hin : ∀ W, Inv W → NodesIn W ka kc kids) (hfn : ∀ i W, Fin i W → NodesIn W ka kc kids) (hdr : ∀ W, Inv W → Inv W.drew) (hf : TestOK K cap p kids Inv Fin) :
    Calls Tryz.prog 83 #[.slice ka kids.length kc, .func (Fn.func K) #[] cap] w (NbPost Inv Fin (nbO p (MRe.trees kids))) := by
  have hcap := (hin w hi).cap
  have hle := (hin w hi).le
  unfold maxLen at hcap
  have HI := Lib.hid hi
  have HIN := Lib.hid hin
  have HDR := Lib.hid hdr
  have HFN := Lib.hid hfn
  have HF := Lib.hid hf
  unfold Enters at he
  clear hi hin hdr hf hfn
  go_enter Tryz.func83, Tryz.ntmps83
  go_wp2
  go_loopw [5] (fun i wr => ∃ k : Nat, i = .int .i64 ((k + 1 : Nat) : Int) ∧ (k + 1 ≤ kids.length ∨ k = 0) ∧ (∀ i (h : i + 1 < (MRe.trees kids).length), i < k → p (MRe.trees kids)[i] (MRe.trees kids)[i + 1] = false) ∧ Inv wr) (fun i _ => kids.length - (intOf i).toNat)
  case atStart => exact ⟨0, rfl, .inr rfl, by intro i _ h; omega, HI.out⟩
  case round =>
    obtain ⟨k, rfl, hkl, hpk, hinv⟩ := hrel
    have HP := Lib.hid hpk
    have HINV := Lib.hid hinv
    by_cases hlt : k + 1 < kids.length
    · obtain ⟨b, off, rfl, hb, hx⟩ := (HIN.out _ hinv).kid (by omega)
      have hx0 := hx k (by omega)
      have hx1 := hx (k + 1) hlt
      have HC := Lib.hid (HF.out k hlt _ (HDR.out _ hinv))
      have hlt' : k + 1 < (MRe.trees kids).length := by rw [MRe.trees_length]; exact hlt
      have hsome := fun h => nbO_some (p := p) hlt' HP.out h
      have hall : p (MRe.trees kids)[k] (MRe.trees kids)[k + 1] = false → ∀ i (h : i + 1 < (MRe.trees kids).length), i < k + 1 → p (MRe.trees kids)[i] (MRe.trees kids)[i + 1] = false := fun h i hi hk => by
        rcases Nat.lt_or_eq_of_le (Nat.le_of_lt_succ hk) with h1 | h1
        · exact HP.out i hi h1
        · subst h1; exact h
      rw [trees_getElem kids k (by omega), trees_getElem kids (k + 1) hlt] at hsome hall
      have HSO := Lib.hid hsome
      have HAL := Lib.hid hall
      have hcell : ∀ W, NodesIn W (some ⟨b, off, none⟩) kc kids → At8 W b (off + k * 8) kids[k] ∧ At8 W b (off + (k + 1) * 8) kids[k + 1] := fun W hW => by
        obtain ⟨b', off', h1, _, h2⟩ := hW.kid (by omega)
        cases h1
        exact ⟨h2 k (by omega), h2 (k + 1) hlt⟩
      have HCELL := Lib.hid hcell
      clear hcell
      generalize kids[k] = m0 at *
      generalize kids[k + 1] = m1 at *
      obtain ⟨q, hq⟩ : ∃ q, q = p m0.tree m1.tree := ⟨_, rfl⟩
      rw [← hq] at HC HSO HAL
      obtain ⟨op1, sa1, sc1, set1, ka1, kc1, kids1, mn1, mx1, mode1, n1, neg1⟩ := m0
      obtain ⟨op2, sa2, sc2, set2, ka2, kc2, kids2, mn2, mx2, mode2, n2, neg2⟩ := m1
      have g := hx0.node
      have c0 := g.c0
      have c1 := g.c1
      have c2 := g.c2
      have c3 := g.c3
      have c4 := g.c4
      have c5 := g.c5
      have c6 := g.c6
      have c7 := g.c7
      have g := hx1.node
      have d0 := g.c0
      have d1 := g.c1
      have d2 := g.c2
      have d3 := g.c3
      have d4 := g.c4
      have d5 := g.c5
      have d6 := g.c6
      have d7 := g.c7
      simp only [MRe.val] at HC
      have hk1 : ((k + 1 : Nat) : Int) = (k : Int) + 1 := by omega
      rw [hk1]
      have hlti : (k : Int) + 1 < (kids.length : Int) := by omega
      have hb0 : (0 : Int) ≤ (k : Int) := by omega
      have hb1 : (k : Int) < (kids.length : Int) := by omega
      have hb2 : (0 : Int) ≤ (k : Int) + 1 := by omega
      have hb3 : ((k : Int) + 1).toNat = k + 1 := by omega
      have hb4 : (k : Int) + 1 - 1 = (k : Int) := by omega
      have hw0 : IntKind.i64.wrap (k : Int) = (k : Int) := IntWalk.i64_in _ (by omega)
      have hw2 : IntKind.i64.wrap ((k : Int) + 1) = (k : Int) + 1 := IntWalk.i64_in _ (by omega)
      have hw1 : IntKind.i64.wrap ((k : Int) + 1 - 1) = (k : Int) := by rw [IntWalk.i64_in _ (by omega)]; omega
      clear g hx0 hx1 hx hpk hinv hq hsome hall HF hk1 HI
      go_wp2
      go_region_held3 (fun w' => (w'.cell? ⟨b, off + k * 8, none⟩ = some (.int .i64 op1) ∧ w'.cell? ⟨b, off + k * 8 + 1, none⟩ = some (.slice sa1 set1.length sc1) ∧ w'.cell? ⟨b, off + k * 8 + 2, none⟩ = some (.slice ka1 kids1.length kc1) ∧ w'.cell? ⟨b, off + k * 8 + 3, none⟩ = some (.int .i64 mn1) ∧ w'.cell? ⟨b, off + k * 8 + 4, none⟩ = some (.int .i64 mx1) ∧ w'.cell? ⟨b, off + k * 8 + 5, none⟩ = some (.int .i64 mode1) ∧ w'.cell? ⟨b, off + k * 8 + 6, none⟩ = some (.int .i64 n1) ∧ w'.cell? ⟨b, off + k * 8 + 7, none⟩ = some (.bool neg1)) ∧ (w'.cell? ⟨b, off + (k + 1) * 8, none⟩ = some (.int .i64 op2) ∧ w'.cell? ⟨b, off + (k + 1) * 8 + 1, none⟩ = some (.slice sa2 set2.length sc2) ∧ w'.cell? ⟨b, off + (k + 1) * 8 + 2, none⟩ = some (.slice ka2 kids2.length kc2) ∧ w'.cell? ⟨b, off + (k + 1) * 8 + 3, none⟩ = some (.int .i64 mn2) ∧ w'.cell? ⟨b, off + (k + 1) * 8 + 4, none⟩ = some (.int .i64 mx2) ∧ w'.cell? ⟨b, off + (k + 1) * 8 + 5, none⟩ = some (.int .i64 mode2) ∧ w'.cell? ⟨b, off + (k + 1) * 8 + 6, none⟩ = some (.int .i64 n2) ∧ w'.cell? ⟨b, off + (k + 1) * 8 + 7, none⟩ = some (.bool neg2)))
        (with_reducible first | exact ⟨⟨((Keeps.refl [] wr).drew).cell c0 (by simp), ((Keeps.refl [] wr).drew).cell c1 (by simp), ((Keeps.refl [] wr).drew).cell c2 (by simp), ((Keeps.refl [] wr).drew).cell c3 (by simp), ((Keeps.refl [] wr).drew).cell c4 (by simp), ((Keeps.refl [] wr).drew).cell c5 (by simp), ((Keeps.refl [] wr).drew).cell c6 (by simp), ((Keeps.refl [] wr).drew).cell c7 (by simp)⟩, ⟨((Keeps.refl [] wr).drew).cell d0 (by simp), ((Keeps.refl [] wr).drew).cell d1 (by simp), ((Keeps.refl [] wr).drew).cell d2 (by simp), ((Keeps.refl [] wr).drew).cell d3 (by simp), ((Keeps.refl [] wr).drew).cell d4 (by simp), ((Keeps.refl [] wr).drew).cell d5 (by simp), ((Keeps.refl [] wr).drew).cell d6 (by simp), ((Keeps.refl [] wr).drew).cell d7 (by simp)⟩⟩ | exact ⟨⟨E1.out.c0, E1.out.c1, E1.out.c2, E1.out.c3, E1.out.c4, E1.out.c5, E1.out.c6, E1.out.c7⟩, ⟨E2.out.c0, E2.out.c1, E2.out.c2, E2.out.c3, E2.out.c4, E2.out.c5, E2.out.c6, E2.out.c7⟩⟩ | fail)
        (first | (refine Calls.mono HC.out ?_; rintro e w2 ⟨rfl, h0, h1⟩; have H0 := Lib.hid h0; have H1 := Lib.hid h1; have hn : NodesIn w2 (some ⟨b, off, none⟩) kc kids := (by cases q with | true => exact HFN.out _ _ (h1 rfl) | false => exact HIN.out _ (h0 rfl)); have E1 := Lib.hid (HCELL.out w2 hn).1.node; have E2 := Lib.hid (HCELL.out w2 hn).2.node; clear h0 h1 hn))
      cases q with
      | true =>
        have HFI := Lib.hid (H1.out rfl)
        clear H0 H1 E1 E2 c0 c1 c2 c3 c4 c5 c6 c7 d0 d1 d2 d3 d4 d5 d6 d7
        go_wp2
        go_ret
        exact NbPost.of_some (HSO.out (by simp)) rfl HFI.out
      | false =>
        have HNI := Lib.hid (H0.out rfl)
        clear H0 H1 E1 E2 c0 c1 c2 c3 c4 c5 c6 c7 d0 d1 d2 d3 d4 d5 d6 d7
        go_wp2
        go_roundw
        case rel => exact ⟨k + 1, by go_num, by omega, HAL.out (by simp), HNI.out⟩
        case measure => simp [intOf]; omega
    · have hnone : nbO p (MRe.trees kids) = none := nbO_none fun i hi => by
        rw [MRe.trees_length] at hi
        exact hpk i (by rw [MRe.trees_length]; exact hi) (by omega)
      have hk1 : ((k + 1 : Nat) : Int) = (k : Int) + 1 := by omega
      have hlti : ¬ (k : Int) + 1 < (kids.length : Int) := by omega
      have HNO := Lib.hid hnone
      rw [hk1]
      clear hpk hinv hnone hk1
      go_wp2
      go_ret
      exact NbPost.of_none HNO.out rfl HINV.out

/-- What pair hands back. -/
def PairPost (Inv : World → Prop) (Fin : Nat → World → Prop) (o : Option Nat) (e : Ending) (w' : World) : Prop :=
  match o with
  | none => (∃ x : Int, e = .returned (.tuple #[.int .i64 x, .bool false])) ∧ Inv w'
  | some i => e = .returned (.tuple #[.int .i64 i, .bool true]) ∧ Fin i w'
theorem PairPost.of_none {Inv : World → Prop} {Fin : Nat → World → Prop} {o : Option Nat} {e : Ending} {w' : World} (h : o = none) (x : Int) (he : e = .returned (.tuple #[.int .i64 x, .bool false])) (hi : Inv w') : PairPost Inv Fin o e w' := by subst h; exact ⟨⟨x, he⟩, hi⟩
theorem PairPost.of_some {Inv : World → Prop} {Fin : Nat → World → Prop} {o : Option Nat} {i : Nat} {e : Ending} {w' : World} (h : o = some i) (he : e = .returned (.tuple #[.int .i64 i, .bool true])) (hi : Fin i w') : PairPost Inv Fin o e w' := by subst h; exact ⟨he, hi⟩
def pairO (p : Tree → Tree → Bool) (op : Int) (t : Tree) : Option Nat := if t.op = op then nbO p t.kids else none

set_option maxRecDepth 100000 in
set_option maxHeartbeats 1000000 in
theorem pair_any (K : Nat) (cap : Array Value) (p : Tree → Tree → Bool) (o : Int) (m : MRe) (w : World) (Inv : World → Prop) (Fin : Nat → World → Prop) (he : Enters K)
    (hi : Inv w) (hin : ∀ W, Inv W → m.OK W) (hfn : ∀ i W, Fin i W → m.OK W) (hdr : ∀ W, Inv W → Inv W.drew) (hal : ∀ W o, Inv W → Inv (W.alloc o)) (hf : TestOK K cap p m.kids Inv Fin) :
    Calls Tryz.prog 65 #[m.val, .int .i64 o, .func (Fn.func K) #[] cap] w (PairPost Inv Fin (pairO p o m.tree)) := by
  obtain ⟨op, sa, sc, set, ka, kc, kids, mn, mx, mode, n, neg⟩ := m
  have HN := Lib.hid (fun W (h : Inv W) => neighbors_any K cap p ka kc kids W Inv Fin he h (fun W h => (hin W h).nodes) (fun i W h => (hfn i W h).nodes) hdr hf)
  have HI := Lib.hid (hal w (.cells #[.int .i64 op, .slice sa set.length sc, .slice ka kids.length kc, .int .i64 mn, .int .i64 mx, .int .i64 mode, .int .i64 n, .bool neg] 64) hi)
  have hpo : pairO p o (MRe.tree (.node op sa sc set ka kc kids mn mx mode n neg)) = if op = o then nbO p (MRe.trees kids) else none := rfl
  rw [hpo]
  simp only [MRe.val]
  clear he hi hin hfn hdr hal hf hpo
  by_cases ho : op = o
  · subst ho
    rw [if_pos rfl]
    have hne : (op != op) = false := by simp
    go_enter Tryz.func65, Tryz.ntmps65
    go_wp2_with fail
    refine Calls.mono (HN.out _ HI.out) ?_
    intro e w2 hor
    cases hq : nbO p (MRe.trees kids) with
    | none =>
      rw [hq] at hor
      obtain ⟨rfl, hv⟩ := hor
      have HV := Lib.hid hv
      have HQ := Lib.hid hq
      clear hv hq
      go_wp2
      go_ret2
      exact PairPost.of_none HQ.out (-1) rfl HV.out
    | some i =>
      rw [hq] at hor
      obtain ⟨rfl, hv⟩ := hor
      have HV := Lib.hid hv
      have HQ := Lib.hid hq
      clear hv hq
      go_wp2
      go_ret2
      exact PairPost.of_some HQ.out rfl HV.out
  · rw [if_neg ho]
    have hne : (op != o) = true := by simp [ho]
    go_enter Tryz.func65, Tryz.ntmps65
    go_wp2
    go_ret2
    exact PairPost.of_none rfl 0 rfl HI.out

end Go.Proofs.YtgdmkddegcecaaaGreat
