/- ast.Uses, rules.plain. Conditions: the tree lies in memory. -/
import Derived.Test.YtgdmkddegcecaaaGreatBegins
import Derived.Test.YtgdmkddegcecaaaGreatTake
namespace Go.Proofs.YtgdmkddegcecaaaGreat
open Go.RowKit

def hdNull : List Tree → Bool
  | [] => false
  | k :: _ => nullP k
def usesOfT : Tree → Nat
  | .node op _ kids _ _ mode _ _ =>
    if op = 6 then 1 else if op = 10 then 2 else if op = 7 ∨ op = 8 then 4 else if op = 9 then 8 else if op = 11 then 16 else if op = 5 then 64
    else if op = 4 then (if mode = 2 then 8 else 0) ||| (if hdNull kids = true then 32 else 0) else 0
mutual
def usesT : Tree → Nat
  | .node op set kids mn mx mode n neg => usesOfT (.node op set kids mn mx mode n neg) ||| usesL kids
def usesL : List Tree → Nat
  | [] => 0
  | k :: ks => usesT k ||| usesL ks
end
theorem usesOfT_lt (t : Tree) : usesOfT t < 128 := by
  cases t
  simp only [usesOfT]
  repeat' split
  all_goals decide
theorem or_lt {a b : Nat} (ha : a < 128) (hb : b < 128) : a ||| b < 128 := Nat.or_lt_two_pow (n := 7) ha hb
theorem usesL_lt_of (l : List Tree) (h : ∀ k ∈ l, usesT k < 128) : usesL l < 128 := by
  induction l with
  | nil => simp [usesL]
  | cons x xs ih =>
    rw [usesL]
    exact or_lt (h x (by simp)) (ih fun k hk => h k (by simp [hk]))
theorem usesT_lt (t : Tree) : usesT t < 128 := by
  refine Tree.induct (P := fun t => usesT t < 128) (fun op set kids mn mx mode n neg ih => ?_) t
  rw [usesT]
  exact or_lt (usesOfT_lt _) (usesL_lt_of kids ih)
theorem usesL_lt (l : List Tree) : usesL l < 128 := usesL_lt_of l fun k _ => usesT_lt k

theorem bits_or {a b : Nat} (ha : a < 128) (hb : b < 128) : bits .or .i64 (a : Int) (b : Int) = ((a ||| b : Nat) : Int) := by
  have h := or_lt ha hb
  have e : (BitVec.ofInt 64 (a : Int) ||| BitVec.ofInt 64 (b : Int)).toNat = a ||| b := by
    rw [BitVec.toNat_or, BitVec.ofInt_natCast, BitVec.ofInt_natCast, BitVec.toNat_ofNat, BitVec.toNat_ofNat, Nat.mod_eq_of_lt (by omega), Nat.mod_eq_of_lt (by omega)]
  show IntKind.i64.wrap ((BitVec.ofInt 64 (a : Int) ||| BitVec.ofInt 64 (b : Int)).toNat : Int) = _
  rw [e, IntWalk.i64_in _ (by omega)]

set_option maxRecDepth 100000 in
set_option maxHeartbeats 4000000 in
theorem usesOf_any (b o : Nat) (m : MRe) (w : World) (h1 : At8 w b o m) (k1 : m.OK w) :
    Calls Tryz.prog 98 #[.pointer (some ⟨b, o, none⟩)] w fun e w' => e = .returned (.int .i64 (usesOfT m.tree)) ∧ Keeps [] w w' := by
  obtain ⟨op, sa, sc, set, ka, kc, kids, mn, mx, mode, n, neg⟩ := m
  have hT : usesOfT (MRe.tree (.node op sa sc set ka kc kids mn mx mode n neg)) = usesOfT (.node op set (MRe.trees kids) mn mx mode n neg) := rfl
  rw [hT]
  have a0 := h1.node.c0
  have a2 := h1.node.c2
  have a5 := h1.node.c5
  have HK := Lib.hid k1.kids
  clear hT h1 k1
  by_cases hA : op = 6 ∨ op = 10 ∨ op = 7 ∨ op = 8 ∨ op = 9 ∨ op = 11 ∨ op = 5
  · rcases hA with rfl | rfl | rfl | rfl | rfl | rfl | rfl
    all_goals
      go_enter Tryz.func98, Tryz.ntmps98
      go_wp2
      go_ret
      exact ⟨rfl, Keeps.refl _ _⟩
  · simp only [not_or] at hA
    obtain ⟨n6, n10, n7, n8, n9, n11, n5⟩ := hA
    by_cases h4 : op = 4
    · subst h4
      have hR : usesOfT (.node 4 set (MRe.trees kids) mn mx mode n neg) = (if mode = 2 then 8 else 0) ||| (if hdNull (MRe.trees kids) = true then 32 else 0) := rfl
      rw [hR]
      clear hR
      cases kids with
      | nil =>
        have hh : hdNull (MRe.trees []) = false := rfl
        rw [hh]
        by_cases hm : mode = 2
        · subst hm
          go_enter Tryz.func98, Tryz.ntmps98
          go_wp2
          go_ret
          exact ⟨rfl, Keeps.refl _ _⟩
        · rw [if_neg hm]
          go_enter Tryz.func98, Tryz.ntmps98
          go_wp2
          go_ret
          exact ⟨rfl, Keeps.refl _ _⟩
      | cons k0 ks =>
        have hh : hdNull (MRe.trees (k0 :: ks)) = nullP k0.tree := rfl
        rw [hh]
        obtain ⟨b', off, rfl, hb, hx⟩ := HK.out.nodes.kid (by simp)
        have hx0 := hx 0 (by simp)
        have HN := Lib.hid (fun W (h : Keeps [] w W) => null_any k0 W ((HK.out.all k0 (by simp)).keep h))
        obtain ⟨q, hq⟩ : ∃ q, q = nullP k0.tree := ⟨_, rfl⟩
        rw [← hq] at HN ⊢
        rw [Nat.zero_mul, Nat.add_zero, List.getElem_cons_zero] at hx0
        obtain ⟨op1, sa1, sc1, set1, ka1, kc1, kids1, mn1, mx1, mode1, n1, neg1⟩ := k0
        have g := hx0.node
        have d0 := g.c0
        have d1 := g.c1
        have d2 := g.c2
        have d3 := g.c3
        have d4 := g.c4
        have d5 := g.c5
        have d6 := g.c6
        have d7 := g.c7
        simp only [MRe.val] at HN
        obtain ⟨l, hl⟩ : ∃ l, l = ((.node op1 sa1 sc1 set1 ka1 kc1 kids1 mn1 mx1 mode1 n1 neg1) :: ks : List MRe).length := ⟨_, rfl⟩
        have hl0 : 0 < l := by rw [hl]; simp
        have hl0i : (0 : Int) < (l : Int) := by omega
        rw [← hl] at a2
        clear g hx0 hx hh hq hl
        by_cases hm : mode = 2
        · subst hm
          rw [if_pos rfl]
          go_enter Tryz.func98, Tryz.ntmps98
          go_wp2_with fail
          refine Calls.mono (HN.out _ (by first | exact Keeps.refl _ _ | exact (Keeps.refl _ _).drew)) ?_
          rintro e w2 ⟨rfl, hk⟩
          have HK2 := Lib.hid hk
          clear hk
          cases q
          all_goals
            go_wp2
            go_ret
            exact ⟨rfl, HK2.out⟩
        · rw [if_neg hm]
          go_enter Tryz.func98, Tryz.ntmps98
          go_wp2_with fail
          refine Calls.mono (HN.out _ (by first | exact Keeps.refl _ _ | exact (Keeps.refl _ _).drew)) ?_
          rintro e w2 ⟨rfl, hk⟩
          have HK2 := Lib.hid hk
          clear hk
          cases q
          all_goals
            go_wp2
            go_ret
            exact ⟨rfl, HK2.out⟩
    · have hR : usesOfT (.node op set (MRe.trees kids) mn mx mode n neg) = 0 := by rw [usesOfT, if_neg n6, if_neg n10, if_neg (by simp [n7, n8]), if_neg n9, if_neg n11, if_neg n5, if_neg h4]
      rw [hR]
      go_enter Tryz.func98, Tryz.ntmps98
      go_wp2
      go_ret
      exact ⟨rfl, Keeps.refl _ _⟩


end Go.Proofs.YtgdmkddegcecaaaGreat
