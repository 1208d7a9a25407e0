/- Taking the operations of a drawn region by hand, also those whose guard is false. -/
import Derived.Test.YtgdmkddegcecaaaGreatBase
import Derived.Deep.RegionHeld3
namespace Go.Proofs.YtgdmkddegcecaaaGreat
open Go.RowKit

theorem take_on {P : Program} {Q : Exit → Act → World → Prop} {md : Region.Mode} {S : World → Prop} {l r : List Oper} {i : Nat} {oi : Oper} {v : Value} {fuel : Nat} {listed : Array Bool} {a : Act} {w : World}
    (hd : l.drop i = oi :: r) (hs : Region.noSelect l.toArray = true) (hf : Region.free md l.toArray listed i = true) (hr : (Region.ready md l.toArray listed).contains i = true)
    (hQ : ∀ c a w, Q (.panic c) (a.put oi.dst v) w → Q (.panic c) a w) (hw : Region.wanted oi (yielded l.toArray a.tmps) = true) (hS : S w)
    (hy : ∀ w, S w → (execOp a.eval oi).run P w = .ok (.value v) w)
    (h : wpAnyH P md l.toArray Q S fuel (listed.setIfInBounds i true) (a.put oi.dst v) w) : wpAnyH P md l.toArray Q S (fuel + 1) listed a w :=
  wpAnyH_take (by rw [List.getElem?_toArray, ← List.head?_drop, hd]; rfl) hs hf hr hQ (Or.inl ⟨hw, hy⟩) hS h

theorem take_off {P : Program} {Q : Exit → Act → World → Prop} {md : Region.Mode} {S : World → Prop} {l r : List Oper} {i : Nat} {oi : Oper} {fuel : Nat} {listed : Array Bool} {a : Act} {w : World}
    (hd : l.drop i = oi :: r) (hs : Region.noSelect l.toArray = true) (hf : Region.free md l.toArray listed i = true) (hr : (Region.ready md l.toArray listed).contains i = true)
    (hQ : ∀ c a w, Q (.panic c) (a.put oi.dst undef) w → Q (.panic c) a w) (hw : Region.wanted oi (yielded l.toArray a.tmps) = false) (hS : S w)
    (h : wpAnyH P md l.toArray Q S fuel (listed.setIfInBounds i true) (a.put oi.dst undef) w) : wpAnyH P md l.toArray Q S (fuel + 1) listed a w :=
  wpAnyH_take (by rw [List.getElem?_toArray, ← List.head?_drop, hd]; rfl) hs hf hr hQ (Or.inr ⟨hw, rfl⟩) hS h

theorem branch_one {P : Program} {Q : Exit → Act → World → Prop} {md : Region.Mode} {S : World → Prop} {l r : List Oper} {i : Nat} {oi : Oper} {fuel : Nat} {listed : Array Bool} {a : Act} {w : World}
    (hd : l.drop i = oi :: r) (hr : Region.ready md l.toArray listed = [i]) (hw : Region.wanted oi (yielded l.toArray a.tmps) = true)
    (h : ∀ K' : Act → World → Prop, Shut (∀ a w, S w → (S w → wpAnyH P md l.toArray Q S fuel (listed.setIfInBounds i true) a w) → K' a w) → Oper.wp P oi a w K' Q) :
    wpAnyH P md l.toArray Q S (fuel + 1) listed a w :=
  wpAnyH_ready hr (by simp) (AllReadyH.cons (by rw [List.getElem?_toArray, ← List.head?_drop, hd]; rfl) (fun K hK => by rw [if_pos hw]; exact h K hK) AllReadyH.nil)

theorem branch_two {P : Program} {Q : Exit → Act → World → Prop} {md : Region.Mode} {S : World → Prop} {l r r' : List Oper} {i j : Nat} {oi oj : Oper} {fuel : Nat} {listed : Array Bool} {a : Act} {w : World}
    (hd : l.drop i = oi :: r) (hd' : l.drop j = oj :: r') (hr : Region.ready md l.toArray listed = [i, j]) (hw : Region.wanted oi (yielded l.toArray a.tmps) = true) (hw' : Region.wanted oj (yielded l.toArray a.tmps) = true)
    (h : ∀ K' : Act → World → Prop, Shut (∀ a w, S w → (S w → wpAnyH P md l.toArray Q S fuel (listed.setIfInBounds i true) a w) → K' a w) → Oper.wp P oi a w K' Q)
    (h' : ∀ K' : Act → World → Prop, Shut (∀ a w, S w → (S w → wpAnyH P md l.toArray Q S fuel (listed.setIfInBounds j true) a w) → K' a w) → Oper.wp P oj a w K' Q) :
    wpAnyH P md l.toArray Q S (fuel + 1) listed a w :=
  wpAnyH_ready hr (by simp) (AllReadyH.cons (by rw [List.getElem?_toArray, ← List.head?_drop, hd]; rfl) (fun K hK => by rw [if_pos hw]; exact h K hK) (AllReadyH.cons (by rw [List.getElem?_toArray, ← List.head?_drop, hd']; rfl) (fun K hK => by rw [if_pos hw']; exact h' K hK) AllReadyH.nil))

theorem branch_off {P : Program} {Q : Exit → Act → World → Prop} {md : Region.Mode} {S : World → Prop} {l r : List Oper} {i : Nat} {oi : Oper} {fuel : Nat} {listed : Array Bool} {a : Act} {w : World}
    (hd : l.drop i = oi :: r) (hr : Region.ready md l.toArray listed = [i]) (hw : Region.wanted oi (yielded l.toArray a.tmps) = false) (hS : S w)
    (h : wpAnyH P md l.toArray Q S fuel (listed.setIfInBounds i true) (a.put oi.dst undef) w) :
    wpAnyH P md l.toArray Q S (fuel + 1) listed a w :=
  wpAnyH_ready hr (by simp) (AllReadyH.cons (by rw [List.getElem?_toArray, ← List.head?_drop, hd]; rfl) (fun K hK => by rw [if_neg (by rw [hw]; simp)]; exact hK _ _ hS (fun _ => h)) AllReadyH.nil)

end Go.Proofs.YtgdmkddegcecaaaGreat
