/- The walk of MeterCopies: it returns true and leaves old memory as it was. Conditions: the slices lie in memory. -/
import Derived.Test.YtdpmkbiibmjbfaaScript
import Derived.Test.YtdpmkbiibmjbfaaLives
import Derived.Test.YtdpmkbiibmjbfaaRef3
namespace Go.Proofs.Ytdpmkbiibmjbfaa
open Go.RowKit

/-- Two pairs that share no block. -/
structure Twins (w wr : World) (mb mu rb cb cu db : Nat) (a a2 : Option Nat) : Prop where
  d1 : cb ≠ mb ∧ cb ≠ mu ∧ cb ≠ rb ∧ cu ≠ mb ∧ cu ≠ mu ∧ cu ≠ rb ∧ db ≠ mb ∧ db ≠ mu ∧ db ≠ rb
  d2 : a ≠ some cb ∧ a ≠ some cu ∧ a ≠ some db
  d3 : a2 ≠ some mb ∧ a2 ≠ some mu ∧ a2 ≠ some rb
  d4 : ∀ g, a = some g → a2 ≠ some g
  nw : w.heap.size ≤ mb ∧ w.heap.size ≤ mu ∧ w.heap.size ≤ rb ∧ w.heap.size ≤ cb ∧ w.heap.size ≤ cu ∧ w.heap.size ≤ db
  na : ∀ g, a = some g → w.heap.size ≤ g
  na2 : ∀ g, a2 = some g → w.heap.size ≤ g
  kp : Keeps [] w wr
theorem Twins.swap {w wr : World} {mb mu rb cb cu db : Nat} {a a2 : Option Nat} (h : Twins w wr mb mu rb cb cu db a a2) : Twins w wr cb cu db mb mu rb a2 a := by
  obtain ⟨h1, h2, h3, h4, h5, h6, h7, h8⟩ := h
  exact ⟨by omega, h3, h2, fun g hg hg2 => h4 g hg2 hg, by omega, h7, h6, h8⟩
/-- A step of the first pair. -/
theorem Twins.step {w wr w2 : World} {mb mu rb cb cu db : Nat} {a a2 a' : Option Nat} (h : Twins w wr mb mu rb cb cu db a a2) (k : Keeps (mb :: mu :: rb :: a.toList) wr w2) (ha : a' = a ∨ ∃ g, a' = some g ∧ wr.heap.size ≤ g)
    (l1 : cb < wr.heap.size) (l2 : cu < wr.heap.size) (l3 : db < wr.heap.size) (l4 : ∀ g, a2 = some g → g < wr.heap.size) : Twins w w2 mb mu rb cb cu db a' a2 := by
  have hz := h.kp.size
  have hk : Keeps [] w w2 := h.kp.after k (by
    intro x hx
    simp at hx
    have hn := h.nw
    right
    rcases hx with rfl | rfl | rfl | hx
    · omega
    · omega
    · omega
    · exact h.na x hx)
  rcases ha with rfl | ⟨g, rfl, hg⟩
  · exact ⟨h.d1, h.d2, h.d3, h.d4, h.nw, h.na, h.na2, hk⟩
  · refine ⟨h.d1, ⟨?_, ?_, ?_⟩, h.d3, ?_, h.nw, ?_, h.na2, hk⟩
    · intro h1; simp at h1; omega
    · intro h1; simp at h1; omega
    · intro h1; simp at h1; omega
    · intro g' hg' h2; simp at hg'; have := l4 g' h2; omega
    · intro g' hg'; simp at hg'; omega
/-- What the first pair's step leaves of the second pair. -/
theorem Twins.other {w wr w2 : World} {mb mu rb cb cu db : Nat} {a a2 : Option Nat} {S P tk : Int} {us : List Int} {c : Nat} {L : List (Int × Int × Int)} (h : Twins w wr mb mu rb cb cu db a a2) (k : Keeps (mb :: mu :: rb :: a.toList) wr w2)
    (hp : Pair wr cb cu db S P tk us a2 c L) : Pair w2 cb cu db S P tk us a2 c L := by
  have h1 := h.d1
  refine hp.keep k ?_ ?_ ?_ ?_
  · simp; exact ⟨by omega, by omega, by omega, h.d2.1⟩
  · simp; exact ⟨by omega, by omega, by omega, h.d2.2.1⟩
  · simp; exact ⟨by omega, by omega, by omega, h.d2.2.2⟩
  · intro g hg
    subst hg
    have h3 := h.d3
    simp at h3 ⊢
    exact ⟨h3.1, h3.2.1, h3.2.2, fun h5 => h.d4 g h5 rfl⟩
theorem Twins.ops {wr w2 : World} {mb mu rb : Nat} {a : Option Nat} {e n c : Nat} {ao : Option Nat} {xs : List Value} (k : Keeps (mb :: mu :: rb :: a.toList) wr w2) (hs : SliceAt wr e 4 ao n c xs)
    (h1 : ∀ g, ao = some g → g ≠ mb ∧ g ≠ mu ∧ g ≠ rb ∧ a ≠ some g) : SliceAt w2 e 4 ao n c xs :=
  hs.keep k (by intro g hg; have := h1 g hg; simp; exact this)

/-- Both pairs, and the two rows of operations, at a round's head. -/
structure CState (w wr : World) (mb mu rb cb cu db : Nat) (ax ay : Option Nat) (nx ny cx cy : Nat) (xo yo : List (Int × Int × Int × Int)) (k : Nat) (t1 t2 : Int) (u1 u2 : List Int) (a a2 : Option Nat) (c c2 : Nat) (L L2 : List (Int × Int × Int)) : Prop where
  p1 : Pair wr mb mu rb 9 6 t1 u1 a c L
  p2 : Pair wr cb cu db 9 6 t2 u2 a2 c2 L2
  tw : Twins w wr mb mu rb cb cu db a a2
  l1 : L.length ≤ 20 + k
  l2 : L2.length ≤ 20 + k
  n1 : u1.length = 4
  n2 : u2.length = 4
  sx : SliceAt wr 41 4 ax nx cx (flat4 xo)
  sy : SliceAt wr 41 4 ay ny cy (flat4 yo)
  ex : ∀ g, ax = some g → g ≠ mb ∧ g ≠ mu ∧ g ≠ rb ∧ g ≠ cb ∧ g ≠ cu ∧ g ≠ db ∧ a ≠ some g ∧ a2 ≠ some g
  ey : ∀ g, ay = some g → g ≠ mb ∧ g ≠ mu ∧ g ≠ rb ∧ g ≠ cb ∧ g ≠ cu ∧ g ≠ db ∧ a ≠ some g ∧ a2 ≠ some g

theorem Pair.lts {w : World} {mb mu rb : Nat} {share period tick : Int} {used : List Int} {a : Option Nat} {c : Nat} {L : List (Int × Int × Int)} (h : Pair w mb mu rb share period tick used a c L) : mb < w.heap.size ∧ mu < w.heap.size ∧ rb < w.heap.size ∧ ∀ g, a = some g → g < w.heap.size :=
  ⟨lt_of_block h.m.cells, lt_of_block h.m.us, lt_of_block h.r.cells, fun g hg => by subst hg; exact h.r.sl.lt⟩

theorem CState.swap {w wr : World} {mb mu rb cb cu db : Nat} {ax ay : Option Nat} {nx ny cx cy : Nat} {xo yo : List (Int × Int × Int × Int)} {k : Nat} {t1 t2 : Int} {u1 u2 : List Int} {a a2 : Option Nat} {c c2 : Nat} {L L2 : List (Int × Int × Int)}
    (h : CState w wr mb mu rb cb cu db ax ay nx ny cx cy xo yo k t1 t2 u1 u2 a a2 c c2 L L2) : CState w wr cb cu db mb mu rb ay ax ny nx cy cx yo xo k t2 t1 u2 u1 a2 a c2 c L2 L :=
  ⟨h.p2, h.p1, h.tw.swap, h.l2, h.l1, h.n2, h.n1, h.sy, h.sx, fun g hg => by obtain ⟨e1, e2, e3, e4, e5, e6, e7, e8⟩ := h.ey g hg; exact ⟨e4, e5, e6, e1, e2, e3, e8, e7⟩, fun g hg => by obtain ⟨e1, e2, e3, e4, e5, e6, e7, e8⟩ := h.ex g hg; exact ⟨e4, e5, e6, e1, e2, e3, e8, e7⟩⟩

/-- A step of the first pair. -/
theorem CState.step {w wr w2 : World} {mb mu rb cb cu db : Nat} {ax ay : Option Nat} {nx ny cx cy : Nat} {xo yo : List (Int × Int × Int × Int)} {k : Nat} {t1 t2 : Int} {u1 u2 : List Int} {a a2 : Option Nat} {c c2 : Nat} {L L2 : List (Int × Int × Int)}
    (h : CState w wr mb mu rb cb cu db ax ay nx ny cx cy xo yo k t1 t2 u1 u2 a a2 c c2 L L2) {e : Ending} (hs : StepPost wr mb mu rb 9 6 a u1.length (L.length + 1) e w2) :
    e = .returned (.bool true) ∧ ∃ t1' u1' a' c' L', L'.length ≤ L.length + 1 ∧ ∀ k', L'.length ≤ 20 + k' → L2.length ≤ 20 + k' → CState w w2 mb mu rb cb cu db ax ay nx ny cx cy xo yo k' t1' t2 u1' u2 a' a2 c' c2 L' L2 := by
  obtain ⟨he, t1', u1', a', c', L', hp, hu, hl, hk, ha⟩ := hs
  refine ⟨he, t1', u1', a', c', L', hl, fun k' hl1 hl2 => ?_⟩
  obtain ⟨m1, m2, m3, m4⟩ := h.p1.lts
  obtain ⟨q1, q2, q3, q4⟩ := h.p2.lts
  have hfr : ∀ g, g < wr.heap.size → a ≠ some g → a' ≠ some g := by
    intro g hg hn hc
    rcases ha with rfl | ⟨g', rfl, hg'⟩
    · exact hn hc
    · simp at hc; omega
  have tw := h.tw.step hk ha q1 q2 q3 q4
  refine ⟨hp, h.tw.other hk h.p2, tw, hl1, hl2, hu.trans h.n1, h.n2, Twins.ops hk h.sx (fun g hg => ?_), Twins.ops hk h.sy (fun g hg => ?_), fun g hg => ?_, fun g hg => ?_⟩
  · obtain ⟨e1, e2, e3, e4, e5, e6, e7, e8⟩ := h.ex g hg; exact ⟨e1, e2, e3, e7⟩
  · obtain ⟨e1, e2, e3, e4, e5, e6, e7, e8⟩ := h.ey g hg; exact ⟨e1, e2, e3, e7⟩
  · obtain ⟨e1, e2, e3, e4, e5, e6, e7, e8⟩ := h.ex g hg
    subst hg
    exact ⟨e1, e2, e3, e4, e5, e6, hfr g h.sx.lt e7, e8⟩
  · obtain ⟨e1, e2, e3, e4, e5, e6, e7, e8⟩ := h.ey g hg
    subst hg
    exact ⟨e1, e2, e3, e4, e5, e6, hfr g h.sy.lt e7, e8⟩
theorem CState.keep {w wr w2 : World} {mb mu rb cb cu db : Nat} {ax ay : Option Nat} {nx ny cx cy : Nat} {xo yo : List (Int × Int × Int × Int)} {k : Nat} {t1 t2 : Int} {u1 u2 : List Int} {a a2 : Option Nat} {c c2 : Nat} {L L2 : List (Int × Int × Int)}
    (h : CState w wr mb mu rb cb cu db ax ay nx ny cx cy xo yo k t1 t2 u1 u2 a a2 c c2 L L2) (hk : Keeps [] wr w2) : CState w w2 mb mu rb cb cu db ax ay nx ny cx cy xo yo k t1 t2 u1 u2 a a2 c c2 L L2 :=
  ⟨h.p1.keep hk (by simp) (by simp) (by simp) (by simp), h.p2.keep hk (by simp) (by simp) (by simp) (by simp), ⟨h.tw.d1, h.tw.d2, h.tw.d3, h.tw.d4, h.tw.nw, h.tw.na, h.tw.na2, h.tw.kp.trans hk⟩, h.l1, h.l2, h.n1, h.n2, h.sx.keep hk (by simp), h.sy.keep hk (by simp), h.ex, h.ey⟩
theorem CState.up {w wr : World} {mb mu rb cb cu db : Nat} {ax ay : Option Nat} {nx ny cx cy : Nat} {xo yo : List (Int × Int × Int × Int)} {k : Nat} {t1 t2 : Int} {u1 u2 : List Int} {a a2 : Option Nat} {c c2 : Nat} {L L2 : List (Int × Int × Int)}
    (h : CState w wr mb mu rb cb cu db ax ay nx ny cx cy xo yo k t1 t2 u1 u2 a a2 c c2 L L2) (k' : Nat) (h1 : L.length ≤ 20 + k') (h2 : L2.length ≤ 20 + k') : CState w wr mb mu rb cb cu db ax ay nx ny cx cy xo yo k' t1 t2 u1 u2 a a2 c c2 L L2 :=
  ⟨h.p1, h.p2, h.tw, h1, h2, h.n1, h.n2, h.sx, h.sy, h.ex, h.ey⟩

end Go.Proofs.Ytdpmkbiibmjbfaa
