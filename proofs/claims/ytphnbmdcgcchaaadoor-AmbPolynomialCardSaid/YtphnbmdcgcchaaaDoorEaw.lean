/- Part 23 of the proof. No condition: every lemma says its own. -/
import Derived.Test.YtphnbmdcgcchaaaDoorEav
import Derived.Test.YtphnbmdcgcchaaaDoorEap
namespace Go.Proofs.YtphnbmdcgcchaaaDoor
open Go.RowKit Go.Sort Go.BigFrame Classical
open Go.RowKit Go.Sort Go.BigFrame
set_option maxRecDepth 100000
set_option maxHeartbeats 16000000
structure DEnv (W00 : World) (wb : Nat) (x : Gr) (rows P : List Nat) (leadL : Nat → List Nat) (p5 p6 p11 lb : Nat) (pa : Option Nat) (pc : Nat) : Prop where
 env : WEnv W00 wb x rows
 prt : PartsOK x.nodes.length rows P
 c5 : W00.cell? ⟨p5, 0, none⟩ = some (.pointer (some ⟨wb, 0, none⟩))
 c6 : W00.cell? ⟨p6, 0, none⟩ = some (.slice (pa.map fun g => ⟨g, 0, none⟩) P.length pc)
 row : SliceAt W00 59 1 pa P.length pc (P.map fun r => .int .u64 ((r : Nat) : Int))
 c11 : W00.cell? ⟨p11, 0, none⟩ = some (.slice (some ⟨lb, 0, none⟩) P.length P.length)
 lds : ∀ i, i < P.length → ∃ a c, W00.cell? ⟨lb, i, none⟩ = some (.slice (a.map fun g => ⟨g, 0, none⟩) (leadL i).length c) ∧ SliceAt W00 3 1 a (leadL i).length c ((leadL i).map fun j => .int .i64 ((j : Nat) : Int))
 mem : ∀ i j, i < P.length → (j ∈ leadL i ↔ j < P.length ∧ ldP x.edges rows P i j)
 small : P.length ≤ 64
 lsm : ∀ i, i < P.length → (leadL i).length ≤ 64
def degC (p16 p6 p5 p11 p18 : Nat) : Array Value := #[.pointer (some ⟨p16, 0, none⟩), .pointer (some ⟨p6, 0, none⟩), .pointer (some ⟨p5, 0, none⟩), .pointer (some ⟨p11, 0, none⟩), .pointer (some ⟨p18, 0, none⟩)]
structure DS (W00 : World) (p16 p6 p5 p11 p18 kb m : Nat) (L : Nat → Nat) (known : List Int) (w : World) : Prop where
 kp : Keeps [] W00 w
 c16 : w.cell? ⟨p16, 0, none⟩ = some (.slice (some ⟨kb, 0, none⟩) m m)
 c18 : w.cell? ⟨p18, 0, none⟩ = some (.func (.func 22) #[] (degC p16 p6 p5 p11 p18))
 kn : Ints 3 w kb known
 len : known.length = m
 val : ∀ i, i < m → known.getD i 0 = -1 ∨ known.getD i 0 = L i
 nm : kb ≠ p16 ∧ kb ≠ p18 ∧ W00.heap.size ≤ kb
theorem DS.keep {W00 w w' : World} {p16 p6 p5 p11 p18 kb m : Nat} {L : Nat → Nat} {known : List Int} (h : DS W00 p16 p6 p5 p11 p18 kb m L known w) (k : Keeps [] w w') : DS W00 p16 p6 p5 p11 p18 kb m L known w' :=
 ⟨h.kp.trans k, k.cell h.c16 (by simp), k.cell h.c18 (by simp), h.kn.keep k (by simp), h.len, h.val, h.nm⟩
theorem deg1_any {W00 : World} {wb : Nat} {x : Gr} {rows P : List Nat} {leadL : Nat → List Nat} {p5 p6 p11 lb : Nat} {pa : Option Nat} {pc p16 p18 kb : Nat} {L : Nat → Nat} (E : DEnv W00 wb x rows P leadL p5 p6 p11 lb pa pc)
  (hL : IsL P.length (rchP rows P) (ldP x.edges rows P) L) (hb : ∀ i, i < P.length → L i ≤ 64) : ∀ n i w known, i < P.length → cntB (rows.getD (lowN (P.getD i 0)) 0) 64 < n → DS W00 p16 p6 p5 p11 p18 kb P.length L known w →
  Calls Tryd.prog 22 (#[.int .i64 i] ++ degC p16 p6 p5 p11 p18) w fun e w' => e = .returned (.int .i64 (L i)) ∧ Keeps [kb] w w' ∧ ∃ known', DS W00 p16 p6 p5 p11 p18 kb P.length L known' w' := by
 intro n
 induction n with
 | zero => intro i w known _ h; omega
 | succ n ih =>
  intro i w known hi hn hd
  have IH := Lib.hid ih
  have HE := Lib.hid E
  have HL := Lib.hid hL
  have HB := Lib.hid hb
  have HD := Lib.hid hd
  have HN := Lib.hid hn
  have c16 := hd.c16
  have hil : i < known.length := by rw [hd.len]; exact hi
  have k0 := hd.kn.cell i hil
  have hv := hd.val i hi
  have hsm := E.small
  rw [show known.getD i 0 = known[i] by simp [List.getD, hil]] at hv
  obtain ⟨v, hv0⟩ : ∃ v, v = known[i] := ⟨_, rfl⟩
  rw [← hv0] at hv k0
  have HILT := Lib.hid hil
  clear ih E hL hb hd hn hv0
  show Calls Tryd.prog 22 #[.int .i64 i, .pointer (some ⟨p16, 0, none⟩), .pointer (some ⟨p6, 0, none⟩), .pointer (some ⟨p5, 0, none⟩), .pointer (some ⟨p11, 0, none⟩), .pointer (some ⟨p18, 0, none⟩)] w _
  by_cases hv1 : 0 ≤ v
  ·have HV := Lib.hid (show v = L i by omega)
   clear hv
   go_enter Tryd.func22, Tryd.ntmps22
   go_wp2
   go_ret
   exact ⟨by rw [← HV.out]; rfl, Keeps.refl _ _, known, HD.out⟩
  ·clear hv
   have c6 := HD.out.kp.cell HE.out.c6 (by simp)
   go_enter Tryd.func22, Tryd.ntmps22
   go_wp2
   go_loopw [8, 24] (fun v8 v24 wr => ∃ (k M : Nat) (kn : List Int), v8 = .int .i64 M ∧ v24 = .int .i64 k ∧ k ≤ P.length ∧ M ≤ 65 ∧ DS W00 p16 p6 p5 p11 p18 kb P.length L kn wr ∧ Keeps [kb] w wr ∧ MS P.length (rchP rows P) (ldP x.edges rows P) L i (fun k' _ => k' < k) M) (fun _ v24 _ => P.length - (intOf v24).toNat)
   case atStart => exact ⟨0, 0, known, rfl, rfl, Nat.zero_le _, Nat.zero_le _, HD.out, Keeps.refl _ _, MS.start (fun k j h => absurd h (Nat.not_lt_zero _))⟩
   case round =>
    obtain ⟨k, M, kn, rfl, rfl, hk, hM, hds, hkw, hms⟩ := hrel
    obtain ⟨wA, hwA⟩ : ∃ wA : World, wA = wr := ⟨_, rfl⟩
    subst hwA
    have HDS := Lib.hid hds
    have HKW := Lib.hid hkw
    have HMS := Lib.hid hms
    clear hms hkw c16 k0 c6
    by_cases hkm : k < P.length
    ·have hkp := hds.kp
     have hrow := HE.out.row.keep hkp (by simp)
     have c6 := hkp.cell HE.out.c6 (by simp)
     have c5 := hkp.cell HE.out.c5 (by simp)
     have hEw := HE.out.env.keep hkp
     obtain ⟨ob, rb, hbx, hus, _⟩ := hEw.ways.box
     have q5 := (way_cells hbx).2.2.2.2.2
     obtain ⟨g, rfl⟩ := hrow.some_of (by omega)
     simp only [Option.map_some] at c6 ⊢
     have rk := hrow.cell k (by simpa using hkm)
     have ri := hrow.cell i (by simpa using hi)
     simp only [List.getElem_map] at rk ri
     have ek : P[k] = P.getD k 0 := by simp [List.getD, hkm]
     have ei : P[i] = P.getD i 0 := by simp [List.getD, hi]
     rw [ek] at rk
     rw [ei] at ri
     obtain ⟨nk, nk0⟩ := HE.out.prt.nodes _ (mem_getN hkm)
     obtain ⟨ni, ni0⟩ := HE.out.prt.nodes _ (mem_getN hi)
     have lk := nk.low nk0
     have li := ni.low ni0
     have hln := hEw.ok.ln
     have u := hus.cell (lowN (P.getD i 0)) (by rw [hEw.len]; exact li.1)
     have hRCH := Lib.hid (show rchP rows P i k ↔ (rows.getD (lowN (P.getD i 0)) 0).testBit (lowN (P.getD k 0)) = true from Iff.rfl)
     have HF1 := Lib.hid (fun q => first_any (P.getD i 0) (wA.drewN q) ni0 ni.1 (hEw.tab.keep ((Keeps.refl [] wA).drewN q) (by simp)))
     have HF2 := Lib.hid (fun q => first_any (P.getD k 0) (wA.drewN q) nk0 nk.1 (hEw.tab.keep ((Keeps.refl [] wA).drewN q) (by simp)))
     have HH := Lib.hid (fun W => hasN_any (rows.getD (lowN (P.getD i 0)) 0) (lowN (P.getD k 0)) W (by omega) (hEw.lt _ (by rw [hEw.len]; exact li.1)))
     have hlx : lowN (P.getD i 0) < x.nodes.length := li.1
     obtain ⟨tb, htb⟩ : ∃ tb, tb = (rows.getD (lowN (P.getD i 0)) 0).testBit (lowN (P.getD k 0)) := ⟨_, rfl⟩
     rw [← htb] at HH hRCH
     obtain ⟨rs, hrs⟩ : ∃ n, n = rows.getD (lowN (P.getD i 0)) 0 := ⟨_, rfl⟩
     simp only [← hrs] at HH u
     obtain ⟨ls, hls2⟩ : ∃ n, n = lowN (P.getD i 0) := ⟨_, rfl⟩
     obtain ⟨lt, hlt2⟩ : ∃ n, n = lowN (P.getD k 0) := ⟨_, rfl⟩
     simp only [← hls2] at HF1 u hlx
     simp only [← hlt2] at HF2 HH
     obtain ⟨Pi, hPi⟩ : ∃ n, n = P.getD i 0 := ⟨_, rfl⟩
     obtain ⟨Pk, hPk⟩ : ∃ n, n = P.getD k 0 := ⟨_, rfl⟩
     simp only [← hPi] at HF1 ri
     simp only [← hPk] at HF2 rk
     have hlen := hEw.len
     have HLEN := Lib.hid hlen
     clear hkp hrow hEw hbx hus nk nk0 ni ni0 lk li htb hrs hls2 hlt2 hPi hPk hlen ek ei hds hln
     go_upto_region 7 with fail
     go_quiet ((first | (go_at_call 20; exact quiet_left (HF1.out _)) | (go_at_call 20; exact quiet_left (HF2.out _)) | (go_at_call 23; exact quiet_left (HH.out _))))
     have KQ := (Keeps.refl [] wA).drewN nq
     have HDV := Lib.hid (HDS.out.keep KQ)
     have HKV := Lib.hid (HKW.out.trans (KQ.mono (by simp)))
     clear c5 c6 q5 rk ri u KQ
     generalize wA.drewN nq = V at *
     cases tb with
     | false =>
      go_wp2
      go_roundw
      case rel => exact ⟨k + 1, M, kn, rfl, by go_num, hkm, hM, HDV.out, HKV.out, HMS.out.skip (fun k' j' _ _ h h1 _ => by
       rcases Nat.lt_or_eq_of_le (show k' ≤ k by omega) with e | rfl
       ·exact e
       ·exact absurd (hRCH.out.1 h1) (by simp))⟩
      case measure => simp [intOf]; omega
     | true =>
      have hrk : rchP rows P i k := hRCH.out.2 rfl
      have HRK := Lib.hid hrk
      have c11 := HDV.out.kp.cell HE.out.c11 (by simp)
      obtain ⟨la, lc, hlc, hlr⟩ := HE.out.lds k hkm
      have hlc := HDV.out.kp.cell hlc (by simp)
      have HLR := Lib.hid hlr
      have hlk := HE.out.lsm k hkm
      obtain ⟨js, hjs⟩ : ∃ js, js = leadL k := ⟨_, rfl⟩
      rw [← hjs] at hlc hlk HLR
      have HJS := Lib.hid (show ∀ j ∈ js, j < P.length ∧ ldP x.edges rows P k j from fun j hj => (HE.out.mem k j hkm).1 (by rw [← hjs]; exact hj))
      have HJS2 := Lib.hid (show ∀ j, j < P.length → ldP x.edges rows P k j → j ∈ js from fun j h1 h2 => by rw [hjs]; exact (HE.out.mem k j hkm).2 ⟨h1, h2⟩)
      clear hlr hjs hrk
      go_wp2
      go_loopw [8, 48] (fun v8 v48 wr => ∃ (q M' : Nat) (kn' : List Int), v8 = .int .i64 M' ∧ v48 = .int .i64 q ∧ q ≤ js.length ∧ M' ≤ 65 ∧ DS W00 p16 p6 p5 p11 p18 kb P.length L kn' wr ∧ Keeps [kb] w wr ∧ MS P.length (rchP rows P) (ldP x.edges rows P) L i (fun k' j' => k' < k ∨ (k' = k ∧ j' ∈ js.take q)) M') (fun _ v48 _ => js.length - (intOf v48).toNat)
      case atStart => exact ⟨0, M, kn, rfl, rfl, Nat.zero_le _, hM, HDV.out, HKV.out, HMS.out.skip (fun k' j' _ _ h _ _ => by rcases h with h | ⟨_, h⟩; exact h; simp at h)⟩
      case round =>
       obtain ⟨q, M', kn', rfl, rfl, hq, hM', hds', hkw', hms'⟩ := hrel
       obtain ⟨wB, hwB⟩ : ∃ wB : World, wB = wr := ⟨_, rfl⟩
       subst hwB
       have HDS' := Lib.hid hds'
       have HKW' := Lib.hid hkw'
       have HMS' := Lib.hid hms'
       clear hms' hkw' hlc c11
       by_cases hqm : q < js.length
       ·have hlr := HLR.out.keep hds'.kp (by simp)
        obtain ⟨g2, rfl⟩ := hlr.some_of (by omega)
        simp only [Option.map_some]
        have jc := hlr.cell q (by simpa using hqm)
        simp only [List.getElem_map] at jc
        obtain ⟨j, hj⟩ : ∃ j, j = js[q] := ⟨_, rfl⟩
        have hjm := HJS.out js[q] (List.getElem_mem hqm)
        have htk : js.take (q + 1) = js.take q ++ [js[q]] := List.take_succ_eq_append_getElem hqm
        rw [← hj] at jc hjm htk
        have c18 := hds'.c18
        unfold degC at c18
        have hdown := HE.out.prt.down HE.out.env.rw_ HE.out.env.ok.ln hi hkm hjm.1 HRK.out hjm.2
        have HREC := Lib.hid (IH.out j wB kn' hjm.1 (by have := HN.out; omega) hds')
        unfold degC at HREC
        have hLj := HB.out j hjm.1
        have HTK := Lib.hid htk
        have HJM := Lib.hid hjm
        have HM2 := Lib.hid (HMS'.out.more (proc' := fun k' j' => k' < k ∨ (k' = k ∧ j' ∈ js.take (q + 1))) hkm hjm.1 HRK.out hjm.2 (fun k' j' _ _ h => by
         rcases h with h | ⟨rfl, h⟩
         ·exact .inl (.inl h)
         ·rw [htk] at h
          rcases List.mem_append.1 h with h | h
          ·exact .inl (.inr ⟨rfl, h⟩)
          ·simp at h; exact .inr (.inl ⟨rfl, h⟩)))
        obtain ⟨Lj, hLj2⟩ : ∃ n, n = L j := ⟨_, rfl⟩
        rw [← hLj2] at hLj HREC HM2
        clear hds' hlr hj hjm htk hdown hLj2
        by_cases hmx : M' ≤ 1 + Lj
        ·rw [Nat.max_eq_right hmx] at HM2
         by_cases hmx2 : M' = 1 + Lj
         ·subst hmx2
          go_wp2_with fail
          refine HREC.out.mono ?_
          rintro e w5 ⟨rfl, hk5, kn5, hd5⟩
          have HD5 := Lib.hid hd5
          have HK5 := Lib.hid (HKW'.out.trans hk5)
          clear hk5 hd5 jc c18
          go_wp2
          go_roundw
          case rel => exact ⟨q + 1, 1 + Lj, kn5, by go_num, by go_num, hqm, by omega, HD5.out, HK5.out, HM2.out⟩
          case measure => simp [intOf]; omega
         ·have hmx3 : (M' : Int) < 1 + Lj := by omega
          have hmx4 : ¬ ((1 : Int) + Lj < M') := by omega
          have hmx5 : ¬ ((1 : Int) + Lj ≤ M') := by omega
          have hmx6 : ¬ ((M' : Int) = 1 + Lj) := by omega
          go_wp2_with fail
          refine HREC.out.mono ?_
          rintro e w5 ⟨rfl, hk5, kn5, hd5⟩
          have HD5 := Lib.hid hd5
          have HK5 := Lib.hid (HKW'.out.trans hk5)
          clear hk5 hd5 jc c18
          go_wp2
          go_roundw
          case rel => exact ⟨q + 1, 1 + Lj, kn5, by go_num, by go_num, hqm, by omega, HD5.out, HK5.out, HM2.out⟩
          case measure => simp [intOf]; omega
        ·rw [Nat.max_eq_left (by omega)] at HM2
         have hmx3 : (1 : Int) + Lj < M' := by omega
         have hmx4 : ¬ ((M' : Int) < 1 + Lj) := by omega
         have hmx5 : ¬ ((M' : Int) ≤ 1 + Lj) := by omega
         have hmx6 : ¬ ((M' : Int) = 1 + Lj) := by omega
         go_wp2_with fail
         refine HREC.out.mono ?_
         rintro e w5 ⟨rfl, hk5, kn5, hd5⟩
         have HD5 := Lib.hid hd5
         have HK5 := Lib.hid (HKW'.out.trans hk5)
         clear hk5 hd5 jc c18
         go_wp2
         go_roundw
         case rel => exact ⟨q + 1, M', kn5, by go_num, by go_num, hqm, by omega, HD5.out, HK5.out, HM2.out⟩
         case measure => simp [intOf]; omega
       ·clear hds'
        go_wp2
        go_roundw
        case rel => exact ⟨k + 1, M', kn', rfl, by go_num, hkm, hM', HDS'.out, HKW'.out, HMS'.out.skip (fun k' j' _ hj' h _ h2 => by
         rcases Nat.lt_or_eq_of_le (show k' ≤ k by omega) with e | rfl
         ·exact .inl e
         ·exact .inr ⟨rfl, by rw [List.take_of_length_le (by omega)]; exact HJS2.out j' hj' h2⟩)⟩
        case measure => simp [intOf]; omega
    ·have HFIN := Lib.hid (HMS.out.done HL.out hi (fun k' j' h _ => by omega))
     have c16 := hds.c16
     have kfz := hds.kn.fz i
     have hkl : i < kn.length := by rw [hds.len]; exact hi
     have k0 := hds.kn.cell i hkl
     have HSET := Lib.hid (hds.kn.set i (M : Int))
     obtain ⟨v2, hv2⟩ : ∃ v, v = kn[i] := ⟨_, rfl⟩
     rw [← hv2] at k0
     have HKL := Lib.hid hkl
     clear hv2 hds hkl
     go_wp2
     go_ret
     have hd := HDS.out
     have kk : Keeps [kb] wA (wA.setCell ⟨kb, i, none⟩ (.int .i64 M)) := (Keeps.refl [kb] wA).setCell (by simp) _
     refine ⟨by rw [← HFIN.out]; rfl, HKW.out.trans kk, kn.set i (M : Int), ⟨hd.kp.after kk (fun q hq => by simp at hq; subst hq; exact .inr hd.nm.2.2), kk.cell hd.c16 (by simpa using hd.nm.1.symm), kk.cell hd.c18 (by simpa using hd.nm.2.1.symm), HSET.out, by simpa using hd.len, fun j hj => ?_, hd.nm⟩⟩
     have := hd.len
     by_cases e : j = i
     ·subst e
      right
      rw [← HFIN.out]
      simp [List.getD, show j < kn.length by omega]
     ·have h := hd.val j hj
      rw [show (kn.set i (M : Int)).getD j 0 = kn.getD j 0 by simp only [List.getD, List.getElem?_set]; rw [if_neg (fun e2 => e e2.symm)]]
      exact h
section
def slv (s : Option Nat × Nat) (n : Nat) : Value := .slice (s.1.map fun g => ⟨g, 0, none⟩) n s.2
structure LeadsAt (w : World) (lb base m : Nat) (others : List Nat) (sl : Nat → Option Nat × Nat) (ll : Nat → List Nat) : Prop where
 row : w.heap[lb]? = some (.cells ((List.range m).map fun i => slv (sl i) (ll i).length).toArray 22 (0, 0))
 sls : ∀ i, i < m → SliceAt w 3 1 (sl i).1 (ll i).length (sl i).2 ((ll i).map fun j => .int .i64 ((j : Nat) : Int))
 apt : ∀ i, i < m → ∀ g, (sl i).1 = some g → g ≠ lb ∧ g ∉ others ∧ base ≤ g
 one : ∀ i j, i < m → j < m → i ≠ j → ∀ g, (sl i).1 = some g → (sl j).1 ≠ some g
variable {w w' : World} {lb base m : Nat} {others : List Nat} {sl : Nat → Option Nat × Nat} {ll : Nat → List Nat}
theorem LeadsAt.keep (h : LeadsAt w lb base m others sl ll) (k : Keeps [] w w') : LeadsAt w' lb base m others sl ll :=
 ⟨k.heap h.row (by simp), fun i hi => (h.sls i hi).keep k (by simp), h.apt, h.one⟩
theorem LeadsAt.cell (h : LeadsAt w lb base m others sl ll) {i : Nat} (hi : i < m) : w.cell? ⟨lb, i, none⟩ = some (.slice ((sl i).1.map fun g => ⟨g, 0, none⟩) (ll i).length (sl i).2) := by
 simp [World.cell?, h.row, hi, slv]
theorem LeadsAt.fz (h : LeadsAt w lb base m others sl ll) (i : Nat) : w.frozen? ⟨lb, i, none⟩ = false := by simp [World.frozen?, h.row]
def updL (sl : Nat → Option Nat × Nat) (i : Nat) (v : Option Nat × Nat) : Nat → Option Nat × Nat := fun j => if j = i then v else sl j
def addL (ll : Nat → List Nat) (i j : Nat) : Nat → List Nat := fun k => if k = i then ll i ++ [j] else ll k
theorem LeadsAt.push (h : LeadsAt w lb base m others sl ll) {i j g c' : Nat} (hi : i < m) (hs : SliceAt w' 3 1 (some g) ((ll i).length + 1) c' (((ll i).map fun j => .int .i64 ((j : Nat) : Int)) ++ [.int .i64 ((j : Nat) : Int)])) (k : Keeps (sl i).1.toList w w') (hg : (sl i).1 = some g ∨ w.heap.size ≤ g) (hb : base ≤ w.heap.size) (ho : ∀ x ∈ others, x < w.heap.size) :
  LeadsAt (w'.setCell ⟨lb, i, none⟩ (slv (some g, c') ((ll i).length + 1))) lb base m others (updL sl i (some g, c')) (addL ll i j) := by
 have hlb : lb < w.heap.size := lt_of_block h.row
 have hnl : lb ∉ (sl i).1.toList := fun hm => (h.apt i hi lb (by simpa using hm)).1 rfl
 have hgl : g ≠ lb := by
  rcases hg with e | e
  ·exact (h.apt i hi g e).1
  ·omega
 have kb : Keeps [lb] w' (w'.setCell ⟨lb, i, none⟩ (slv (some g, c') ((ll i).length + 1))) := (Keeps.refl [lb] w').setCell (by simp) _
 have hr := heap_setCell_same w' lb i _ _ (slv (some g, c') ((ll i).length + 1)) (k.heap h.row hnl)
 have hoth : ∀ q, q < m → q ≠ i → ∀ g', (sl q).1 = some g' → g' ≠ g := fun q hq hne g' hg' e => by
  subst e
  rcases hg with e2 | e2
  ·exact h.one q i hq hi hne _ hg' e2
  ·have h1 := h.sls q hq
   rw [hg'] at h1
   have := h1.lt
   omega
 refine ⟨?_, fun q hq => ?_, fun q hq g' hg' => ?_, fun q r hq hrm hqr g' hg' hg2 => ?_⟩
 ·rw [hr]
  congr 2
  apply Array.ext'
  simp only [Array.toList_setIfInBounds]
  apply List.ext_getElem
  ·simp
  ·intro q h1 h2
   simp only [List.length_set, List.length_map, List.length_range] at h1
   simp only [List.getElem_set, List.getElem_map, List.getElem_range]
   by_cases e : i = q
   ·subst e
    simp [updL, addL, slv]
   ·rw [if_neg e]
    simp [updL, addL, show ¬ q = i from fun e2 => e e2.symm]
 ·by_cases e : q = i
  ·subst e
   simp only [updL, addL, if_true]
   have h1 := hs.keep kb (by simpa using hgl)
   simpa using h1
  ·simp only [updL, addL, if_neg e]
   refine ((h.sls q hq).keep k fun g' hg' hm => ?_).keep kb fun g' hg' hm => ?_
   ·have e3 : (sl i).1 = some g' := by simpa using hm
    exact h.one q i hq hi e g' hg' e3
   ·simp at hm
    exact (h.apt q hq g' hg').1 hm
 ·by_cases e : q = i
  ·subst e
   simp only [updL, if_true, Option.some.injEq] at hg'
   subst hg'
   refine ⟨hgl, fun hm => ?_, ?_⟩
   ·rcases hg with e2 | e2
    ·exact (h.apt q hq g e2).2.1 hm
    ·have := ho g hm; omega
   ·rcases hg with e2 | e2
    ·exact (h.apt q hq g e2).2.2
    ·omega
  ·simp only [updL, if_neg e] at hg'
   exact h.apt q hq g' hg'
 ·by_cases e : q = i
  ·subst e
   simp only [updL, if_true, if_neg (fun e2 : r = q => hqr e2.symm), Option.some.injEq] at hg' hg2
   subst hg'
   exact hoth r hrm (fun e2 => hqr e2.symm) _ hg2 rfl
  ·by_cases e2 : r = i
   ·subst e2
    simp only [updL, if_true, if_neg e, Option.some.injEq] at hg' hg2
    subst hg2
    exact hoth q hq e _ hg' rfl
   ·simp only [updL, if_neg e, if_neg e2] at hg' hg2
    exact h.one q r hq hrm hqr g' hg' hg2
theorem LeadsAt.start (w : World) (m : Nat) (others : List Nat) : LeadsAt (w.alloc (.cells (Array.replicate m (.slice none 0 0)) 22)) w.heap.size w.heap.size m others (fun _ => (none, 0)) (fun _ => []) := by
 refine ⟨?_, fun i _ => SliceAt.nil _ _ _, fun i _ g h => by simp at h, fun i j _ _ _ g h => by simp at h⟩
 rw [heap_alloc_new w _]
 congr 2
 apply Array.ext
 ·simp
 ·intro i h1 h2
  simp [slv]
theorem partsN_len (rows : List Nat) : ∀ f s, (partsN rows f s).length ≤ f
 | 0, _ => Nat.le_refl 0
 | f + 1, s => by
  unfold partsN
  split
  ·simp
  ·have := partsN_len rows f (andN s (partN rows (lowN s)))
   simp only [List.length_cons]
   omega
def LI (es : List E4) (rows P : List Nat) (i j : Nat) (ll : Nat → List Nat) : Prop :=
 (∀ i', i' < i → (∀ j', j' ∈ ll i' ↔ j' < P.length ∧ ldP es rows P i' j') ∧ (ll i').length ≤ P.length) ∧ ((∀ j', j' ∈ ll i ↔ j' < j ∧ ldP es rows P i j') ∧ (ll i).length ≤ j) ∧ ∀ i', i < i' → ll i' = []
theorem LI.start (es : List E4) (rows P : List Nat) : LI es rows P 0 0 (fun _ => []) := ⟨fun i h => absurd h (Nat.not_lt_zero _), ⟨fun j => by simp, by simp⟩, fun _ _ => rfl⟩
variable {es : List E4} {rows P : List Nat} {i j : Nat}
theorem LI.next (h : LI es rows P i P.length ll) : LI es rows P (i + 1) 0 ll := by
 refine ⟨fun i' hi' => ?_, ⟨fun j' => ?_, ?_⟩, fun i' hi' => h.2.2 i' (by omega)⟩
 ·rcases Nat.lt_or_eq_of_le (show i' ≤ i by omega) with e | rfl
  ·exact h.1 i' e
  ·exact h.2.1
 ·rw [h.2.2 (i + 1) (by omega)]; simp
 ·rw [h.2.2 (i + 1) (by omega)]; simp
theorem LI.skip (h : LI es rows P i j ll) (hn : ¬ ldP es rows P i j) : LI es rows P i (j + 1) ll := by
 refine ⟨h.1, ⟨fun j' => ?_, by have := h.2.1.2; omega⟩, h.2.2⟩
 rw [h.2.1.1 j']
 constructor
 ·rintro ⟨h1, h2⟩; exact ⟨by omega, h2⟩
 ·rintro ⟨h1, h2⟩
  rcases Nat.lt_or_eq_of_le (show j' ≤ j by omega) with e | rfl
  ·exact ⟨e, h2⟩
  ·exact absurd h2 hn
theorem LI.add (h : LI es rows P i j ll) (hn : ldP es rows P i j) : LI es rows P i (j + 1) (addL ll i j) := by
 refine ⟨fun i' hi' => ?_, ⟨fun j' => ?_, ?_⟩, fun i' hi' => ?_⟩
 ·rw [addL, if_neg (by omega)]; exact h.1 i' hi'
 ·rw [addL, if_pos rfl, List.mem_append, h.2.1.1 j', List.mem_singleton]
  constructor
  ·rintro (⟨h1, h2⟩ | rfl)
   ·exact ⟨by omega, h2⟩
   ·exact ⟨by omega, hn⟩
  ·rintro ⟨h1, h2⟩
   rcases Nat.lt_or_eq_of_le (show j' ≤ j by omega) with e | e
   ·exact .inl ⟨e, h2⟩
   ·exact .inr e
 ·rw [addL, if_pos rfl, List.length_append, List.length_singleton]
  have := h.2.1.2
  omega
 ·rw [addL, if_neg (by omega)]; exact h.2.2 i' hi'
def DoubleAt (es : List E4) (rows : List Nat) (n : Nat) : Prop := ∃ v, Lead (DSucc es (partN rows n)) ((n : Int), (n : Int), 0) v ((n : Int), (n : Int), 1)
def partsX (x : Gr) (rows : List Nat) : List Nat := partsN rows 64 (reachN rows x.first rows.length)
def DegreePost (w : World) (x : Gr) (e : Ending) (w' : World) : Prop :=
 Keeps [] w w' ∧ if gvalE x ≠ 0 then e = .returned (.tuple #[.int .i64 0, .int .i64 (gvalE x)])
 else ∃ rows, WRows (Ere x.edges) x.nodes.length rows ∧ (((∃ s ∈ partsX x rows, DoubleAt x.edges rows (lowN s)) ∧ e = .returned (.tuple #[.int .i64 (-1), .int .i64 0])) ∨
  ((∀ s ∈ partsX x rows, ¬ DoubleAt x.edges rows (lowN s)) ∧ ∃ (L : Nat → Nat) (D : Nat), IsL (partsX x rows).length (rchP rows (partsX x rows)) (ldP x.edges rows (partsX x rows)) L ∧ e = .returned (.tuple #[.int .i64 D, .int .i64 0]) ∧
   (∀ i, i < (partsX x rows).length → L i ≤ D) ∧ (D = 0 ∨ ∃ i, i < (partsX x rows).length ∧ D = L i)))
end
section
theorem IntsIn.at {w : World} {a : Option Addr} {l : List Int} (h : IntsIn w a l) {i : Nat} (hi : i < l.length) : ∃ b off, a = some ⟨b, off, none⟩ ∧ ∀ j (hj : j < l.length), w.cell? ⟨b, off + j, none⟩ = some (.int .i64 l[j]) := by
 obtain ⟨b, off, e, hc⟩ := h (by omega)
 exact ⟨b, off, e, fun j hj => by rw [hc j hj]; simp [List.getD, hj]⟩
theorem index_any (a : Option Addr) (c : Nat) (l : List Int) (v : Int) (q : Nat) (w : World) (hl : IntsIn w a l) (hll : l.length ≤ 1000000) (hq : q < l.length) (hv : l[q] = v) (hn : ∀ j (hj : j < q), l[j] ≠ v) :
  Calls Tryd.prog 68 #[.slice a l.length c, .int .i64 v] w fun e w' => e = .returned (.int .i64 q) ∧ w = w' := by
 obtain ⟨b, off, rfl, hc⟩ := hl.at hq
 have HC := Lib.hid hc
 have HV := Lib.hid hv
 have HN := Lib.hid hn
 clear hl hc hv hn
 go_enter Tryd.func68, Tryd.ntmps68
 go_wp2
 go_loopw [8] (fun i wr => ∃ k : Nat, k ≤ q ∧ i = .int .i64 k ∧ w = wr) (fun i _ => q + 1 - (intOf i).toNat)
 case atStart => exact ⟨0, Nat.zero_le _, rfl, rfl⟩
 case round =>
  obtain ⟨k, hk, rfl, rfl⟩ := hrel
  have hkl : k < l.length := by omega
  have c0 := HC.out k hkl
  by_cases hkq : k = q
  ·subst hkq
   rw [HV.out] at c0
   go_wp2
   go_ret
   exact ⟨rfl, rfl⟩
  ·have hne := HN.out k (by omega)
   obtain ⟨x, hx⟩ : ∃ x, x = l[k] := ⟨_, rfl⟩
   rw [← hx] at c0 hne
   have hne2 : ¬ v = x := fun e => hne e.symm
   have hne3 : (v == x) = false := by simpa using hne2
   have hkq2 : k + 1 ≤ q := by omega
   clear hx hkq
   go_wp2
   go_roundw
   case rel => exact ⟨k + 1, hkq2, by go_num, by first | rfl | trivial⟩
   case measure => simp [intOf]; omega
def zipW (a b : List Int) : List Int := List.zipWith (fun x y => min (x + y) 1099511627777) a b
theorem zipW_length (a b : List Int) (h : a.length = b.length) : (zipW a b).length = a.length := by simp [zipW, h]
def zipTo (a b : List Int) (i : Nat) : List Int := zipW (a.take i) (b.take i) ++ a.drop i
theorem zipTo_zero (a b : List Int) : zipTo a b 0 = a := by simp [zipTo, zipW]
theorem zipTo_all (a b : List Int) (h : a.length = b.length) : zipTo a b a.length = zipW a b := by
 unfold zipTo
 rw [List.take_length, List.drop_length, List.append_nil, h, List.take_length]
theorem zipTo_length (a b : List Int) (h : a.length = b.length) (i : Nat) : (zipTo a b i).length = a.length := by
 simp [zipTo, zipW, List.length_append]
 omega
theorem zipTo_get (a b : List Int) (h : a.length = b.length) {i : Nat} (hi : i < a.length) : (zipTo a b i)[i]? = some a[i] := by
 have hl : (zipW (a.take i) (b.take i)).length = i := by simp [zipW]; omega
 rw [zipTo, List.getElem?_append_right (by omega), hl, Nat.sub_self, List.getElem?_drop]
 simp [hi]
theorem zipTo_step (a b : List Int) (h : a.length = b.length) {i : Nat} (hi : i < a.length) : (zipTo a b i).set i (min (a[i] + b[i]) 1099511627777) = zipTo a b (i + 1) := by
 have hl : (zipW (a.take i) (b.take i)).length = i := by simp [zipW]; omega
 unfold zipTo
 rw [List.set_append_right _ _ (by omega), hl, Nat.sub_self, List.drop_eq_getElem_cons hi, List.set_cons_zero]
 have e1 : a.take (i + 1) = a.take i ++ [a[i]] := List.take_succ_eq_append_getElem hi
 have e2 : b.take (i + 1) = b.take i ++ [b[i]] := List.take_succ_eq_append_getElem (by omega)
 rw [e1, e2]
 have e3 : zipW (a.take i ++ [a[i]]) (b.take i ++ [b[i]]) = zipW (a.take i) (b.take i) ++ [min (a[i] + b[i]) 1099511627777] := by
  unfold zipW
  rw [List.zipWith_append (by simp; omega)]
  simp
 rw [e3, List.append_assoc]
 rfl
def baseW (p : Pg) (N : Nat) (ix : Nat → Nat) (n : Nat) : List Int := match p.ins[n]? with
 | some i => if i.op = 1 then (List.replicate N 0).set (ix n) 1 else if i.op = 0 then (List.replicate N 0).set (N - 1) 1 else List.replicate N 0
 | none => List.replicate N 0
structure IsC (p : Pg) (nodes : List Int) (ix : Nat → Nat) (C : Nat → List Int) : Prop where
 eq : ∀ n (h : n < p.ins.length), C n = (silL p.ins[n] n).foldl (fun acc t => zipW acc (C t.toNat)) (baseW p nodes.length ix n)
 len : ∀ n, n < p.ins.length → (C n).length = nodes.length
 rng : ∀ n, n < p.ins.length → ∀ v ∈ C n, 0 ≤ v ∧ v ≤ 1099511627777
 ix : ∀ n (h : n < p.ins.length), (p.ins[n]).op = 1 → ∃ h' : ix n < nodes.length, nodes[ix n] = n ∧ ∀ j (hj : j < ix n), nodes[j] ≠ n
 pos : 0 < nodes.length
 small : nodes.length ≤ 1000000
def cntC (p5 p3 p2 p6 : Nat) : Array Value := #[.pointer (some ⟨p5, 0, none⟩), .pointer (some ⟨p3, 0, none⟩), .pointer (some ⟨p2, 0, none⟩), .pointer (some ⟨p6, 0, none⟩)]
structure NS (W00 : World) (m N : Nat) (C : Nat → List Int) (p5 p3 p2 p6 kb : Nat) (sl : Nat → Option Nat × Nat) (w : World) : Prop where
 kp : Keeps [] W00 w
 c5 : w.cell? ⟨p5, 0, none⟩ = some (.slice (some ⟨kb, 0, none⟩) m m)
 c6 : w.cell? ⟨p6, 0, none⟩ = some (.func (.func 67) #[] (cntC p5 p3 p2 p6))
 row : w.heap[kb]? = some (.cells ((List.range m).map fun i => slv (sl i) (if (sl i).1 = none then 0 else N)).toArray 22 (0, 0))
 sls : ∀ i, i < m → ∀ g, (sl i).1 = some g → SliceAt w 3 1 (some g) N (sl i).2 ((C i).map (Value.int .i64)) ∧ g ≠ kb
 nil : ∀ i, i < m → (sl i).1 = none → (sl i).2 = 0
 nm : kb ≠ p5 ∧ kb ≠ p6 ∧ W00.heap.size ≤ kb
variable {W00 w w' : World} {m N : Nat} {C : Nat → List Int} {p5 p3 p2 p6 kb : Nat} {sl : Nat → Option Nat × Nat}
theorem NS.keep (h : NS W00 m N C p5 p3 p2 p6 kb sl w) (k : Keeps [] w w') : NS W00 m N C p5 p3 p2 p6 kb sl w' :=
 ⟨h.kp.trans k, k.cell h.c5 (by simp), k.cell h.c6 (by simp), k.heap h.row (by simp), fun i hi g hg => ⟨(h.sls i hi g hg).1.keep k (by simp), (h.sls i hi g hg).2⟩, h.nil, h.nm⟩
theorem NS.other (h : NS W00 m N C p5 p3 p2 p6 kb sl w) {g0 : Nat} (k : Keeps [g0] w w') (h0 : g0 ≠ p5 ∧ g0 ≠ p6 ∧ g0 ≠ kb ∧ W00.heap.size ≤ g0) (hs : ∀ i, i < m → (sl i).1 ≠ some g0) : NS W00 m N C p5 p3 p2 p6 kb sl w' :=
 ⟨h.kp.after k (fun q hq => by simp at hq; subst hq; exact .inr h0.2.2.2), k.cell h.c5 (by simpa using h0.1.symm), k.cell h.c6 (by simpa using h0.2.1.symm), k.heap h.row (by simpa using h0.2.2.1.symm),
  fun i hi g hg => ⟨(h.sls i hi g hg).1.keep k (fun g' hg' hm => by simp at hm; cases hg'; exact hs i hi (by rw [hg, hm])), (h.sls i hi g hg).2⟩, h.nil, h.nm⟩
theorem NS.cell (h : NS W00 m N C p5 p3 p2 p6 kb sl w) {i : Nat} (hi : i < m) : w.cell? ⟨kb, i, none⟩ = some (.slice ((sl i).1.map fun g => ⟨g, 0, none⟩) (if (sl i).1 = none then 0 else N) (sl i).2) := by
 simp [World.cell?, h.row, hi, slv]
theorem NS.fz (h : NS W00 m N C p5 p3 p2 p6 kb sl w) (i : Nat) : w.frozen? ⟨kb, i, none⟩ = false := by simp [World.frozen?, h.row]
theorem NS.store (h : NS W00 m N C p5 p3 p2 p6 kb sl w) {n g c : Nat} (hn : n < m) (hs : SliceAt w 3 1 (some g) N c ((C n).map (Value.int .i64))) (hg : g ≠ kb) :
  NS W00 m N C p5 p3 p2 p6 kb (updL sl n (some g, c)) (w.setCell ⟨kb, n, none⟩ (slv (some g, c) N)) ∧ Keeps [kb] w (w.setCell ⟨kb, n, none⟩ (slv (some g, c) N)) := by
 have k : Keeps [kb] w (w.setCell ⟨kb, n, none⟩ (slv (some g, c) N)) := (Keeps.refl [kb] w).setCell (by simp) _
 refine ⟨⟨h.kp.after k (fun q hq => by simp at hq; subst hq; exact .inr h.nm.2.2), k.cell h.c5 (by simpa using h.nm.1.symm), k.cell h.c6 (by simpa using h.nm.2.1.symm), ?_, fun i hi g' hg' => ?_, fun i hi hni => ?_, h.nm⟩, k⟩
 ·rw [heap_setCell_same w kb n _ _ _ h.row]
  congr 2
  apply Array.ext'
  simp only [Array.toList_setIfInBounds]
  apply List.ext_getElem
  ·simp
  ·intro q h1 h2
   simp only [List.length_set, List.length_map, List.length_range] at h1
   simp only [List.getElem_set, List.getElem_map, List.getElem_range]
   by_cases e : n = q
   ·subst e; simp [updL]
   ·rw [if_neg e]; simp [updL, show ¬ q = n from fun e2 => e e2.symm]
 ·by_cases e : i = n
  ·subst e
   simp only [updL, if_true, Option.some.injEq] at hg' ⊢
   subst hg'
   exact ⟨hs.keep k (fun g' e' hm => by cases e'; simp at hm; exact hg hm), hg⟩
  ·simp only [updL, if_neg e] at hg' ⊢
   obtain ⟨h1, h2⟩ := h.sls i hi g' hg'
   exact ⟨h1.keep k (fun g'' e' hm => by cases e'; simp at hm; exact h2 hm), h2⟩
 ·by_cases e : i = n
  ·subst e; simp [updL] at hni
  ·simp only [updL, if_neg e] at hni ⊢
   exact h.nil i hi hni
end
end Go.Proofs.YtphnbmdcgcchaaaDoor
