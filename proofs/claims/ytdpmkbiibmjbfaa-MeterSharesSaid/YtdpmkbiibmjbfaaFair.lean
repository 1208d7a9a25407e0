/- Plain arithmetic of MeterFair: what the parts of Shares obey. No condition: every lemma says its own. -/
import Derived.Test.YtdpmkbiibmjbfaaShares
namespace Go.Proofs.Ytdpmkbiibmjbfaa

theorem sumL_perm {a b : List Int} (h : a.Perm b) : sumL a = sumL b := by
  induction h with
  | nil => rfl
  | cons x _ ih => simp only [sumL, List.foldr_cons] at ih ⊢; omega
  | swap x y l => simp only [sumL, List.foldr_cons]; omega
  | trans _ _ h1 h2 => exact h1.trans h2
theorem sumL_zero (l : List Int) (h : ∀ x ∈ l, x = 0) : sumL l = 0 := by
  induction l with
  | nil => rfl
  | cons x l ih =>
    have h1 := h x (by simp)
    have h2 := ih (fun y hy => h y (by simp [hy]))
    simp only [sumL, List.foldr_cons] at h2 ⊢
    omega
theorem keys_upTo (total sum : Int) (ws : List Int) : (upTo ws.length).map (keyOf total sum ws) = ws.map fun x => total * x % sum := by
  apply List.ext_getElem (by simp [upTo])
  intro i h1 h2
  simp at h2
  simp [upTo, keyOf, h2]
theorem split_div (T S w : Int) (hS : 0 < S) : T * w / S = T / S * w + T % S * w / S ∧ T * w % S = T % S * w % S := by
  have h := Int.mul_ediv_add_emod T S
  have e : T * w = T % S * w + S * (T / S * w) := by
    rw [← Int.mul_assoc, ← Int.add_mul, Int.add_comm, h]
  constructor
  · rw [e, Int.add_mul_ediv_left _ _ (by omega), Int.add_comm]
  · rw [e, Int.add_mul_emod_self_left]

/-- What Shares' parts obey. -/
structure FairAt (T S : Int) (ws ps : List Int) : Prop where
  len : ps.length = ws.length
  sum : sumL ps = T
  nn : ∀ x ∈ ps, 0 ≤ x
  base : ∀ i, i < ws.length → ps.getD i 0 = T * ws.getD i 0 / S ∨ (ps.getD i 0 = T * ws.getD i 0 / S + 1 ∧ T * ws.getD i 0 % S ≠ 0)
  mono : ∀ i j, i < ws.length → j < ws.length → ws.getD j 0 < ws.getD i 0 → ps.getD j 0 ≤ ps.getD i 0

/-- Who gets one more has something left over. -/
theorem bumped_pos (T : Int) (ws ord : List Int) (hs : 0 < sumL ws) (hp : ord.Perm (upTo ws.length)) (hpw : ord.Pairwise (Before (keyOf T (sumL ws) ws))) :
    ∀ x ∈ ord.take (T - sumL (bases T (sumL ws) ws)).toNat, keyOf T (sumL ws) ws x ≠ 0 := by
  intro x hx h0
  obtain ⟨t, ht, rfl⟩ := List.mem_iff_getElem.1 hx
  have h1 := rest_eq T (sumL ws) ws
  have h2 := sumL_perm (hp.map (keyOf T (sumL ws) ws))
  rw [keys_upTo] at h2
  rw [← h2] at h1
  simp at ht
  rw [List.getElem_take] at h0
  have hk : ∀ y, 0 ≤ keyOf T (sumL ws) ws y ∧ keyOf T (sumL ws) ws y ≤ sumL ws - 1 := fun y => by
    have a1 := Int.emod_nonneg (T * ws.getD y.toNat 0) (show sumL ws ≠ 0 by omega)
    have a2 := Int.emod_lt_of_pos (T * ws.getD y.toNat 0) hs
    unfold keyOf
    omega
  have h3 : sumL ((ord.drop t).map (keyOf T (sumL ws) ws)) = 0 := by
    apply sumL_zero
    intro y hy
    obtain ⟨z, hz, rfl⟩ := List.mem_map.1 hy
    obtain ⟨u, hu, rfl⟩ := List.mem_iff_getElem.1 hz
    simp at hu
    rw [List.getElem_drop]
    by_cases e : u = 0
    · subst e; simpa using h0
    · have hb := List.pairwise_iff_getElem.1 hpw t (t + u) (by omega) (by omega) (by omega)
      have := hk ord[t + u]
      unfold Before at hb
      omega
  have h4 := sumL_bd ((ord.take t).map (keyOf T (sumL ws) ws)) (sumL ws - 1) (fun y hy => by
    obtain ⟨z, _, rfl⟩ := List.mem_map.1 hy
    exact hk z)
  have h5 : sumL (ord.map (keyOf T (sumL ws) ws)) = sumL ((ord.take t).map (keyOf T (sumL ws) ws)) := by
    conv => lhs; rw [← List.take_append_drop t ord, List.map_append, sumL_append, h3]
    omega
  have h6 : ((ord.take t).map (keyOf T (sumL ws) ws)).length = t := by simp; omega
  rw [h6] at h4
  rw [h5] at h1
  generalize sumL ((ord.take t).map (keyOf T (sumL ws) ws)) = Q at *
  generalize sumL (bases T (sumL ws) ws) = B at *
  generalize sumL ws = S at *
  have h7 : S * (T - B) = Q := by rw [Int.mul_sub, Int.mul_comm S T]; omega
  have h8 : S * ((t : Int) + 1) ≤ S * (T - B) := Int.mul_le_mul_of_nonneg_left (by omega) (by omega)
  have h9 : (S - 1) * (t : Int) = S * t - t := by rw [Int.sub_mul]; simp
  have h10 : S * ((t : Int) + 1) = S * t + S := by rw [Int.mul_add]; simp
  omega

theorem fair_at (T : Int) (ws ord : List Int) (ht : 0 ≤ T) (hw : ∀ x ∈ ws, 0 ≤ x) (hs : 0 < sumL ws) (hp : ord.Perm (upTo ws.length)) (hpw : ord.Pairwise (Before (keyOf T (sumL ws) ws))) :
    FairAt T (sumL ws) ws (bump (bases T (sumL ws) ws) (ord.take (T - sumL (bases T (sumL ws) ws)).toNat)) := by
  have hm : ∀ x ∈ ord, 0 ≤ x ∧ x < ws.length := fun x hx => upTo_mem _ _ (hp.mem_iff.1 hx)
  have hnd : ord.Nodup := hp.nodup_iff.2 (upTo_nodup _)
  have hps := parts_sum T ws ord ht hw hs hm (by rw [hp.length_eq, upTo_length]) hnd
  have hbp := bumped_pos T ws ord hs hp hpw
  have hg := fun j => bump_get (bases T (sumL ws) ws) (ord.take (T - sumL (bases T (sumL ws) ws)).toNat) (hnd.sublist (List.take_sublist _ _)) (fun x hx => by
    rw [bases_length]; exact hm x (List.mem_of_mem_take hx)) j
  refine ⟨by rw [bump_length, bases_length], hps.1, hps.2, fun i hi => ?_, fun i j hi hj hij => ?_⟩
  · rw [hg i, bases_get _ _ _ _ hi]
    by_cases c : (i : Int) ∈ ord.take (T - sumL (bases T (sumL ws) ws)).toNat
    · have := hbp i c
      rw [if_pos c]
      exact .inr ⟨rfl, by simpa [keyOf] using this⟩
    · rw [if_neg c]; exact .inl (by omega)
  · rw [hg i, hg j, bases_get _ _ _ _ hi, bases_get _ _ _ _ hj]
    have hTT : T * ws.getD j 0 ≤ T * ws.getD i 0 := Int.mul_le_mul_of_nonneg_left (by omega) ht
    have hB : T * ws.getD j 0 / sumL ws ≤ T * ws.getD i 0 / sumL ws := Int.ediv_le_ediv hs hTT
    by_cases ci : (i : Int) ∈ ord.take (T - sumL (bases T (sumL ws) ws)).toNat
    · rw [if_pos ci]; split <;> omega
    · rw [if_neg ci]
      by_cases cj : (j : Int) ∈ ord.take (T - sumL (bases T (sumL ws) ws)).toNat
      · rw [if_pos cj]
        have hkj := hbp j cj
        apply Int.not_lt.1
        intro hlt
        have e1 := Int.mul_ediv_add_emod (T * ws.getD i 0) (sumL ws)
        have e2 := Int.mul_ediv_add_emod (T * ws.getD j 0) (sumL ws)
        have e3 : T * ws.getD i 0 / sumL ws = T * ws.getD j 0 / sumL ws := by omega
        rw [e3] at e1
        have hT : 0 < T := by
          rcases Int.lt_or_eq_of_le ht with h | h
          · exact h
          · exfalso; apply hkj; simp [keyOf, ← h]
        have hTT2 : T * ws.getD j 0 < T * ws.getD i 0 := Int.mul_lt_mul_of_pos_left hij hT
        have hk : keyOf T (sumL ws) ws j < keyOf T (sumL ws) ws i := by
          simp only [keyOf, Int.toNat_natCast]; omega
        obtain ⟨t, ht1, ht2⟩ := List.mem_iff_getElem.1 cj
        have hio : (i : Int) ∈ ord := hp.mem_iff.2 (by simp [upTo]; exact ⟨i, hi, rfl⟩)
        obtain ⟨u, hu1, hu2⟩ := List.mem_iff_getElem.1 hio
        simp at ht1
        rw [List.getElem_take] at ht2
        have htu : t < u := by
          apply Int.ofNat_lt.1
          apply Int.not_le.1
          intro hle
          apply ci
          rw [List.mem_iff_getElem]
          exact ⟨u, by simp; omega, by rw [List.getElem_take]; exact hu2⟩
        have hb := List.pairwise_iff_getElem.1 hpw t u (by omega) hu1 htu
        rw [ht2, hu2] at hb
        unfold Before at hb
        omega
      · rw [if_neg cj]; omega

end Go.Proofs.Ytdpmkbiibmjbfaa
