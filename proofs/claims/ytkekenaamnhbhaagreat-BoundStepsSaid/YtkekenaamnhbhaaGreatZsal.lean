/- Part 12 of the proof. No condition: every lemma says its own. -/
import Derived.Test.YtkekenaamnhbhaaGreatZsak
import Derived.Test.YtkekenaamnhbhaaGreatZsab
import Derived.Test.YtkekenaamnhbhaaGreatZsag
namespace Go.Proofs.YtkekenaamnhbhaaGreat
open Go.RowKit Go.Sort Go.BigFrame
open Go.Maps (Keyed)
open Classical
open Go.RowKit Go.Sort Go.BigFrame Classical
set_option maxRecDepth 100000
set_option maxHeartbeats 16000000
theorem stable_any (g p mb mn : Nat) (gm : Value → Option Value) (key : Tri → Int) (sp : List Value) (xs : List Tri) (c : Nat) (w : World) (hE : KeyEnv w p mb mn gm) (hI : Tris 175 w g sp xs)
  (hd : g ∉ [p, mb]) (hr : ∀ x ∈ xs, HasKey gm key x) (n : Nat) (hn : n = xs.length) (hxl : n ≤ 1000000) :
  Calls Tryz.prog 121 #[.slice (some ⟨g, 0, none⟩) xs.length c, .int .i64 n, cmpV p] w fun e w' =>
   e = .returned (.tuple #[]) ∧ ∃ ys, Tris 175 w' g sp ys ∧ Turned xs ys 0 n ∧ Desc key ys 0 n ∧ Keeps [g] w w' := by
 have hek : ∀ w', Keeps [g] w w' → KeyEnv w' p mb mn gm := fun w' hK => hE.keep hK (by intro h; simp at h; exact hd (by simp [h])) (by intro h; simp at h; exact hd (by simp [h]))
 have hrz : ∀ ys : List Tri, ys.Perm xs → ∀ x ∈ ys, HasKey gm key x := fun ys hp x hx => hr x (hp.mem_iff.1 hx)
 have HEK := gI hek
 have HRZ := gI hrz
 have HN := gI hn
 have HI := gI hI
 have HD := gI hd
 clear hE hI hd hr hn hek hrz
 unfold cmpV
 go_enter Tryz.func121, Tryz.ntmps121
 go_wp2
 go_loopw [7, 8] (fun i j wr => ∃ (k a b : Nat) (ys : List Tri), i = .int .i64 a ∧ j = .int .i64 b ∧ a = 20 * k ∧ b = a + 20 ∧ a ≤ n ∧ Tris 175 wr g sp ys ∧ Turned xs ys 0 n ∧ Blk key ys 20 a ∧ Keeps [g] w wr) (fun i _ _ => n - (intOf i).toNat)
 case atStart => exact ⟨0, 0, 20, xs, rfl, rfl, by omega, by omega, by omega, HI.out, Turned.refl _ _ _, fun j p q h1 h2 h3 h4 => by omega, Keeps.refl _ _⟩
 case round =>
  obtain ⟨k, a, b, ys, rfl, rfl, hak, hba, han, hI, hT, hB, hK⟩ := hrel
  have hl := hT.len
  have HL := gI (hT.len.trans HN.out.symm)
  have HI1 := gI hI
  have HT := gI hT
  have HB := gI hB
  have HK := gI hK
  have HAK := gI hak
  have HBA := gI hba
  have hba1 : b ≤ a + 20 := by omega
  have hba2 : a + 20 ≤ b := by omega
  clear hI hT hB hK hak hba
  by_cases hbn : b ≤ n
  ·have hs := isort_any g p mb mn gm key sp ys c a b wr (HEK.out _ HK.out) HI1.out HD.out (HRZ.out _ HT.out.perm) (by omega) (by have := HL.out; omega) (by have := HL.out; omega)
   rw [hl] at hs
   have HSr := gI hs
   clear hs hl
   go_wp2_with fail
   refine Calls.mono HSr.out ?_
   rintro e w1 ⟨rfl, zs, z1, z2, z4, z5⟩
   have Z1 := gI z1
   have Z2 := gI z2
   have Z4 := gI z4
   have Z5 := gI (HK.out.trans z5)
   clear z1 z2 z4 z5
   go_wp2
   go_roundw
   case rel => exact ⟨k + 1, b, b + 20, zs, rfl, by go_num, by have := HAK.out; omega, rfl, hbn, Z1.out, HT.out.trans (Z2.out.mono (by omega) hbn), HB.out.add HAK.out Z2.out (by have := HAK.out; omega) Z4.out, Z5.out⟩
   case measure => simp [intOf]; omega
  ·have hs := isort_any g p mb mn gm key sp ys c a n wr (HEK.out _ HK.out) HI1.out HD.out (HRZ.out _ HT.out.perm) (by omega) (by have := HL.out; omega) (by have := HL.out; omega)
   rw [hl] at hs
   have HSr := gI hs
   clear hs hl
   go_wp2_with fail
   refine Calls.mono HSr.out ?_
   rintro e w1 ⟨rfl, zs, z1, z2, z4, z5⟩
   have Z1 := gI z1
   have Z2 := gI (HT.out.trans (z2.mono (by omega) (Nat.le_refl _)))
   have Z4 := gI (HB.out.add HAK.out z2 (by have := HAK.out; omega) z4)
   have Z5 := gI (HK.out.trans z5)
   clear z1 z2 z4 z5 HI1 HT HB HK HSr HL
   go_wp2
   obtain ⟨wo, hwo⟩ : ∃ wo : World, wo = w1 := ⟨_, rfl⟩
   go_loopw [6, 7, 8, 9] (fun s6 _ _ _ wx => ∃ (bs : Nat) (us : List Tri), s6 = .int .i64 bs ∧ 1 ≤ bs ∧ bs ≤ 2000000 ∧ Tris 175 wx g sp us ∧ Turned xs us 0 n ∧ Blk key us bs n ∧ Keeps [g] w wx) (fun s6 _ _ _ _ => n - (intOf s6).toNat)
   case atStart => exact ⟨20, zs, rfl, by omega, by omega, Z1.out, Z2.out, Z4.out, Z5.out⟩
   case round =>
    obtain ⟨bs, us, rfl, hb1, hb2, hI, hT, hB, hK⟩ := hrel
    have HIu := gI hI
    have HTu := gI hT
    have HBu := gI hB
    have HKu := gI hK
    clear hI hT hB hK Z1 Z2 Z4 Z5
    by_cases hbs : bs < n
    ·go_wp2
     obtain ⟨wo2, hwo2⟩ : ∃ wo2 : World, wo2 = wr := ⟨_, rfl⟩
     go_loopw [7, 8] (fun i j wi => ∃ (k2 a2 b2 : Nat) (vs : List Tri), i = .int .i64 a2 ∧ j = .int .i64 b2 ∧ a2 = 2 * bs * k2 ∧ b2 = a2 + 2 * bs ∧ a2 ≤ n ∧ Tris 175 wi g sp vs ∧ Turned xs vs 0 n ∧ Blk key vs (2 * bs) a2 ∧ BlkF key vs bs a2 n ∧ Keeps [g] w wi) (fun i _ _ => n - (intOf i).toNat)
     case atStart => exact ⟨0, 0, 2 * bs, us, rfl, by go_num, by simp, by omega, by omega, HIu.out, HTu.out, fun j p q h1 h2 h3 h4 => by omega, HBu.out.from, HKu.out⟩
     case round =>
      obtain ⟨k2, a2, b2, vs, rfl, rfl, hak, hba, han2, hI, hT, hB, hF, hK⟩ := hrel
      have hl := hT.len
      have hll : vs.length = n := hT.len.trans HN.out.symm
      have e0 : bs * (2 * k2) = a2 := by rw [hak, Nat.mul_comm 2 bs, Nat.mul_assoc]
      have e2 : 2 * bs * (k2 + 1) = a2 + 2 * bs := by rw [Nat.mul_succ, ← hak]
      have e3 : bs * (2 * k2 + 1) = a2 + bs := by rw [Nat.mul_succ, e0]
      have hcast : ((a2 + bs : Nat) : Int) = (a2 : Int) + bs := by omega
      have hba1 : b2 ≤ a2 + 2 * bs := by omega
      have hba2 : a2 + 2 * bs ≤ b2 := by omega
      by_cases hbn2 : b2 ≤ n
      ·have hs := merge_any g p mb mn gm key sp HD.out n vs c a2 (a2 + bs) b2 wr (by omega) (HEK.out _ hK) hI (HRZ.out _ hT.perm) (by omega) (by omega) (by omega) (by omega) (hF.take (2 * k2) _ _ e0 (by omega) (by omega) (by omega)) (hF.take (2 * k2 + 1) _ _ e3 (by omega) (by omega) (by omega))
       rw [hl, hcast] at hs
       have HSr := gI hs
       have HT := gI hT
       have HB := gI hB
       have HF := gI hF
       have HK := gI hK
       have HAK := gI hak
       have HE2 := gI e2
       clear hs hI hT hB hF hK hak hba e0 e2 e3 hl hll hcast
       go_wp2_with fail
       refine Calls.mono HSr.out ?_
       rintro e w1 ⟨rfl, zs, z1, z2, z4, z5⟩
       have Z1 := gI z1
       have Z2 := gI z2
       have Z4 := gI z4
       have Z5 := gI (HK.out.trans z5)
       clear z1 z2 z4 z5
       go_wp2
       go_roundw
       case rel => exact ⟨k2 + 1, b2, b2 + 2 * bs, zs, rfl, by go_num, by rw [HE2.out]; omega, rfl, hbn2, Z1.out, HT.out.trans (Z2.out.mono (by omega) hbn2), HB.out.add HAK.out Z2.out (by rw [HE2.out]; exact hba1) Z4.out, HF.out.keep Z2.out (by omega), Z5.out⟩
       case measure => simp [intOf]; omega
      ·by_cases hmn : a2 + bs < n
       ·have hs := merge_any g p mb mn gm key sp HD.out n vs c a2 (a2 + bs) n wr (by omega) (HEK.out _ hK) hI (HRZ.out _ hT.perm) (by omega) (by omega) (by omega) (by omega) (hF.take (2 * k2) _ _ e0 (by omega) (by omega) (by omega)) (hF.take (2 * k2 + 1) _ _ e3 (by omega) (by omega) (by omega))
        rw [hl, hcast] at hs
        have HSr := gI hs
        have HT := gI hT
        have HB := gI hB
        have HK := gI hK
        have HAK := gI hak
        have HE2 := gI e2
        have hmn' : (a2 : Int) + bs < n := by omega
        clear hs hI hT hB hF hK hak hba e0 e2 e3 hl hll hcast
        go_wp2_with fail
        refine Calls.mono HSr.out ?_
        rintro e w1 ⟨rfl, zs, z1, z2, z4, z5⟩
        have Z1 := gI z1
        have Z2 := gI (HT.out.trans (z2.mono (by omega) (Nat.le_refl _)))
        have Z4 := gI (HB.out.add HAK.out z2 (by rw [HE2.out]; omega) z4)
        have Z5 := gI (HK.out.trans z5)
        clear z1 z2 z4 z5
        go_wp2
        go_roundw
        case rel => exact ⟨2 * bs, zs, by go_num, by omega, by omega, Z1.out, Z2.out, Z4.out, Z5.out⟩
        case measure => simp [intOf]; omega
       ·have hd := hF.take (2 * k2) a2 n e0 (by omega) (by omega) (by omega)
        have Z4 := gI (hB.add hak (Turned.refl vs a2 n) (by rw [e2]; omega) hd)
        have HI := gI hI
        have HT := gI hT
        have HK := gI hK
        have hmn' : ¬ ((a2 : Int) + bs < n) := by omega
        clear hd hI hT hB hF hK hak hba e0 e2 e3 hl hll hcast
        go_wp2
        go_roundw
        case rel => exact ⟨2 * bs, vs, by go_num, by omega, by omega, HI.out, HT.out, Z4.out, HK.out⟩
        case measure => simp [intOf]; omega
    ·go_wp2
     go_end0
     exact ⟨rfl, us, HIu.out, HTu.out, HBu.out.desc (by omega), HKu.out⟩
theorem sorts_any (g p mb mn : Nat) (gm : Value → Option Value) (key : Tri → Int) (sp : List Value) (xs : List Tri) (c : Nat) (w : World) (hE : KeyEnv w p mb mn gm) (hI : Tris 175 w g sp xs)
  (hd : g ∉ [p, mb]) (hr : ∀ x ∈ xs, HasKey gm key x) (hxl : xs.length ≤ 1000000) :
  Calls Tryz.prog 115 #[.slice (some ⟨g, 0, none⟩) xs.length c, cmpV p] w fun e w' =>
   e = .returned (.tuple #[]) ∧ ∃ ys, Tris 175 w' g sp ys ∧ Turned xs ys 0 xs.length ∧ Desc key ys 0 xs.length ∧ Keeps [g] w w' := by
 have H0 := gI (stable_any g p mb mn gm key sp xs c w hE hI hd hr xs.length rfl hxl)
 clear hE hI hd hr
 unfold cmpV at H0 ⊢
 go_enter Tryz.func115, Tryz.ntmps115
 go_wp2_with fail
 refine Calls.mono H0.out ?_
 rintro e w1 ⟨rfl, h1⟩
 have H1 := gI h1
 clear h1
 go_wp2
 go_end0
 exact ⟨rfl, H1.out⟩
theorem nodup_le {α : Type} : ∀ {l m : List α}, l.Nodup → (∀ x ∈ l, x ∈ m) → l.length ≤ m.length
 | [], m, _, _ => Nat.zero_le _
 | x :: l, m, hn, hs => by
  obtain ⟨h1, h2⟩ := List.nodup_cons.1 hn
  have hx := hs x (by simp)
  have h3 := nodup_le (m := m.erase x) h2 fun y hy => by
   have : y ≠ x := fun e => h1 (e ▸ hy)
   exact (List.mem_erase_of_ne this).2 (hs y (by simp [hy]))
  have h4 := List.length_erase_of_mem hx
  have h5 := List.length_pos_of_mem hx
  simp only [List.length_cons]
  omega
theorem MapAt.tight {P : Program} {k b n : Nat} {w : World} {g : Value → Option Value} (h : MapAt w P k b n g) (K : Keyed P k) (L : List Value) (hL : ∀ v, IsKey P k v → g v ≠ none → v ∈ L) : MapAt w P k b L.length g := by
 obtain ⟨D, ⟨es, clock, h1, F, h3, h4⟩, h2⟩ := h
 refine ⟨D, ⟨es, clock, h1, F, ?_, h4⟩, h2⟩
 have hk : (es.toList.map (·.key)).Nodup := by
  have hp := Maps.fit_apart K F
  rw [List.pairwise_map] at hp
  refine List.pairwise_map.2 ?_
  refine List.Pairwise.imp_of_mem (fun {x y} hx hy hne => ?_) hp
  intro he
  apply hne
  obtain ⟨rx, hrx⟩ := F.reads x hx
  obtain ⟨ry, hry⟩ := F.reads y hy
  have kx := Go.WideElems.rd_key hrx
  have ky := Go.WideElems.rd_key hry
  rw [Go.WideElems.rg_of hrx, Go.WideElems.rg_of hry]
  rw [he, ky] at kx
  exact (Option.some.inj kx).symm
 have hle := nodup_le hk (m := L) fun v hv => by
  obtain ⟨x, hx, rfl⟩ := List.mem_map.1 hv
  obtain ⟨rx, hrx⟩ := F.reads x hx
  have kx := Go.WideElems.rd_key hrx
  refine hL _ ⟨_, kx⟩ fun hnone => ?_
  have h5 := h2 _ _ kx
  rw [hnone] at h5
  simp only [Option.map_none, Option.getD_none] at h5
  have h6 := Maps.has_false_of_atKey h5
  rw [h4] at h6
  have h7 : Maps.has (DataW.map ((es.toList.map (Go.WideElems.rg P k Rv)).foldr DataW.insert [])) rx.1 = true :=
   List.any_eq_true.2 ⟨Go.WideElems.rg P k Rv x, mem_sorted.2 (List.mem_map.2 ⟨x, hx, rfl⟩), by
    rw [Go.WideElems.rg_of hrx]
    exact WideAt.sameKey_self (K.key kx)⟩
  rw [h6] at h7
  cases h7
 simpa using hle
section
theorem infoT3 : (Tryz.prog.info? 175).map (fun i => (i.zero, i.size, i.bytes)) = some (some (.agg #[.int .i64 0, .int .i64 0, .int .i64 0]), 3, 24) := by kernel_rfl
structure NB (N0 : Nat) (p9 p11 p12 fb lb : Nat) (ga : Option Nat) : Prop where
 nd : (p9 :: p11 :: p12 :: fb :: lb :: ga.toList).Nodup
 ge : ∀ x ∈ p9 :: p11 :: p12 :: fb :: lb :: ga.toList, N0 ≤ x
structure NJ' (W0 : World) (dom : List Tri) (F : Tri → Prop) (p9 p11 p12 fb lb nf : Nat) (gF : Value → Option Value) (l : List (Int × Tri)) (W : World) (ga : Option Nat) (c : Nat) (ts : List Tri) (gL : Value → Option Value) : Prop where
 c9 : W.cell? ⟨p9, 0, none⟩ = some (.map (some fb))
 c11 : W.cell? ⟨p11, 0, none⟩ = some (.map (some lb))
 c12 : W.heap[p12]? = some (.cells #[sv ga ts.length c] 187 (0, 0))
 fm : MapAt W Tryz.prog 175 fb nf gF
 lm : MapAt W Tryz.prog 175 lb dom.length gL
 sl : SliceAt W 175 3 ga ts.length c (triF ts)
 nd : ts.Nodup
 mem : ∀ t, t ∈ ts ↔ ¬ F t ∧ ∃ d, (d, t) ∈ l
 dm : ∀ t ∈ ts, t ∈ dom
 key : ∀ v, IsKey Tryz.prog 175 v → gL v ≠ none → v ∈ dom.map triv
 out : ∀ t, TOK t → t ∉ ts → gL (triv t) = none
 at_ : ∀ t, t ∈ ts → ∃ m, gL (triv t) = some (.int .i64 m) ∧ (m, t) ∈ l ∧ ∀ d, (d, t) ∈ l → m ≤ d
 nb : NB W0.heap.size p9 p11 p12 fb lb ga
 kp : Keeps [] W0 W
def NJ (W0 : World) (dom : List Tri) (F : Tri → Prop) (p9 p11 p12 fb lb nf : Nat) (gF : Value → Option Value) (l : List (Int × Tri)) (U : List Nat) (W : World) : Prop :=
 ∃ ga c ts gL, U = p9 :: p11 :: p12 :: fb :: lb :: ga.toList ∧ NJ' W0 dom F p9 p11 p12 fb lb nf gF l W ga c ts gL
variable {W0 W W' : World} {dom : List Tri} {F : Tri → Prop} {p9 p11 p12 fb lb nf c : Nat} {gF gL : Value → Option Value} {l : List (Int × Tri)} {ga : Option Nat} {ts : List Tri}
theorem NJ'.keep (h : NJ' W0 dom F p9 p11 p12 fb lb nf gF l W ga c ts gL) {S : List Nat} (k : Keeps S W W') (hS : ∀ x ∈ S, x ∉ p9 :: p11 :: p12 :: fb :: lb :: ga.toList ∧ W0.heap.size ≤ x) : NJ' W0 dom F p9 p11 p12 fb lb nf gF l W' ga c ts gL := by
 have hn : ∀ y, y ∈ p9 :: p11 :: p12 :: fb :: lb :: ga.toList → y ∉ S := fun y hy hs => (hS y hs).1 hy
 exact ⟨k.cell h.c9 (hn _ (by simp)), k.cell h.c11 (hn _ (by simp)), k.heap h.c12 (hn _ (by simp)), h.fm.keep k (hn _ (by simp)), h.lm.keep k (hn _ (by simp)), h.sl.keep k (fun g hg => hn _ (by simp [hg])), h.nd, h.mem, h.dm, h.key, h.out, h.at_, h.nb, h.kp.after k (fun x hx => .inr (hS x hx).2)⟩
theorem NJ'.lt (h : NJ' W0 dom F p9 p11 p12 fb lb nf gF l W ga c ts gL) : ∀ x ∈ p9 :: p11 :: p12 :: fb :: lb :: ga.toList, x < W.heap.size := by
 intro x hx
 simp only [List.mem_cons, Option.mem_toList] at hx
 rcases hx with rfl | rfl | rfl | rfl | rfl | hx
 ·exact World.block_lt_of_cell? W _ h.c9
 ·exact World.block_lt_of_cell? W _ h.c11
 ·exact lt_of_block h.c12
 ·exact h.fm.lt
 ·exact h.lm.lt
 ·have hs := h.sl
  rw [hx] at hs
  exact hs.lt
structure NameOK (W0 : World) (OKs : Tri → Prop) (ncl : Array Value) (J : List (Int × Tri) → List Nat → World → Prop) : Prop where
 ge : ∀ l U W, J l U W → (∀ x ∈ U, W0.heap.size ≤ x ∧ x < W.heap.size) ∧ Keeps [] W0 W
 stab : ∀ l U W W' S, J l U W → Keeps S W W' → (∀ x ∈ S, x ∉ U ∧ W0.heap.size ≤ x) → J l U W'
 step : ∀ l U W d t, J l U W → OKs t → Calls Tryz.prog 114 (#[.int .i64 d, triv t] ++ ncl) W fun e W' => e = .returned (.tuple #[]) ∧ ∃ U', J (l ++ [(d, t)]) U' W' ∧ Keeps U W W' ∧ ∀ x ∈ U', x ∈ U ∨ W.heap.size ≤ x
end
section
variable {W0 : World} {dom : List Tri} {F : Tri → Prop} {p9 p11 p12 fb lb nf c : Nat} {gF gL : Value → Option Value} {l : List (Int × Tri)} {ga : Option Nat} {ts : List Tri}
theorem triv_inj {u t : Tri} (e : triv u = triv t) : u = t := by
 obtain ⟨a, b, c⟩ := u
 obtain ⟨a', b', c'⟩ := t
 simp [triv] at e
 obtain ⟨rfl, rfl, rfl⟩ := e
 rfl
theorem mem_snoc {l : List (Int × Tri)} {d e : Int} {t u : Tri} : (e, u) ∈ l ++ [(d, t)] ↔ (e, u) ∈ l ∨ (e = d ∧ u = t) := by simp
theorem NJ'.same {W : World} (h : NJ' W0 dom F p9 p11 p12 fb lb nf gF l W ga c ts gL) {d : Int} {t : Tri} (ht : F t ∨ ∃ m, gL (triv t) = some (.int .i64 m) ∧ m ≤ d ∧ t ∈ ts) : NJ' W0 dom F p9 p11 p12 fb lb nf gF (l ++ [(d, t)]) W ga c ts gL := by
 refine { h with mem := fun u => ?_, at_ := fun u hu => ?_ }
 ·rw [h.mem u]
  constructor
  ·rintro ⟨h1, e, h2⟩
   exact ⟨h1, e, mem_snoc.2 (.inl h2)⟩
  ·rintro ⟨h1, e, h2⟩
   refine ⟨h1, ?_⟩
   rcases mem_snoc.1 h2 with h2 | ⟨rfl, rfl⟩
   ·exact ⟨e, h2⟩
   ·rcases ht with ht | ⟨m, _, _, ht⟩
    ·exact absurd ht h1
    ·exact ((h.mem u).1 ht).2
 ·obtain ⟨m, h1, h2, h3⟩ := h.at_ u hu
  refine ⟨m, h1, mem_snoc.2 (.inl h2), fun e he => ?_⟩
  rcases mem_snoc.1 he with he | ⟨rfl, rfl⟩
  ·exact h3 e he
  ·rcases ht with ht | ⟨m', h4, h5, _⟩
   ·exact absurd ht ((h.mem u).1 hu).1
   ·rw [h1] at h4
    simp only [Option.some.injEq, Value.int.injEq, true_and] at h4
    omega
theorem NJ'.less {W W' : World} (h : NJ' W0 dom F p9 p11 p12 fb lb nf gF l W ga c ts gL) {d m : Int} {t : Tri} (ht : t ∈ ts) (hm : gL (triv t) = some (.int .i64 m)) (hd : d < m) {n : Nat}
  (k : Keeps [lb] W W') (hl : MapAt W' Tryz.prog 175 lb n (fun u => if u = triv t then some (.int .i64 d) else gL u)) : NJ' W0 dom F p9 p11 p12 fb lb nf gF (l ++ [(d, t)]) W' ga c ts (fun u => if u = triv t then some (.int .i64 d) else gL u) := by
 have hnd := h.nb.nd
 simp only [List.nodup_cons, List.mem_cons, not_or] at hnd
 have hkey : ∀ v, IsKey Tryz.prog 175 v → (if v = triv t then some (Value.int .i64 d) else gL v) ≠ none → v ∈ dom.map triv := fun v hv hne => by
  by_cases e : v = triv t
  ·subst e; exact List.mem_map.2 ⟨t, h.dm t ht, rfl⟩
  ·rw [if_neg e] at hne; exact h.key v hv hne
 refine ⟨k.cell h.c9 (by simp; omega), k.cell h.c11 (by simp; omega), k.heap h.c12 (by simp; omega), h.fm.keep k (by simp; omega), by simpa using hl.tight triKeyed _ hkey, h.sl.keep k (fun g hg => ?_), h.nd, fun u => ?_, h.dm, hkey, fun u hu hn => ?_, fun u hu => ?_, h.nb, h.kp.after k (fun x hx => .inr ?_)⟩
 ·subst hg; simp at hnd ⊢; omega
 ·rw [h.mem u]
  constructor
  ·rintro ⟨h1, e, h2⟩
   exact ⟨h1, e, mem_snoc.2 (.inl h2)⟩
  ·rintro ⟨h1, e, h2⟩
   refine ⟨h1, ?_⟩
   rcases mem_snoc.1 h2 with h2 | ⟨rfl, rfl⟩
   ·exact ⟨e, h2⟩
   ·exact ((h.mem u).1 ht).2
 ·have : u ≠ t := fun e => hn (e ▸ ht)
  rw [if_neg (fun e => this (triv_inj e))]
  exact h.out u hu hn
 ·by_cases e : u = t
  ·subst e
   refine ⟨d, if_pos rfl, mem_snoc.2 (.inr ⟨rfl, rfl⟩), fun e he => ?_⟩
   obtain ⟨m', h1, h2, h3⟩ := h.at_ u hu
   rw [hm] at h1
   simp only [Option.some.injEq, Value.int.injEq, true_and] at h1
   rcases mem_snoc.1 he with he | ⟨rfl, _⟩
   ·have := h3 e he; omega
   ·exact Int.le_refl _
  ·obtain ⟨m', h1, h2, h3⟩ := h.at_ u hu
   rw [if_neg (fun e2 => e (triv_inj e2))]
   refine ⟨m', h1, mem_snoc.2 (.inl h2), fun e' he => ?_⟩
   rcases mem_snoc.1 he with he | ⟨_, e2⟩
   ·exact h3 e' he
   ·exact absurd e2 e
 ·simp only [List.mem_singleton] at hx
  subst hx
  exact h.nb.ge _ (by simp)
theorem NJ'.new {W W1 W2 W' : World} (h : NJ' W0 dom F p9 p11 p12 fb lb nf gF l W ga c ts gL) {d : Int} {t : Tri} (hf : ¬ F t) (ht : t ∉ ts) (hdm : t ∈ dom) {n g c2 : Nat} (hN0 : W0.heap.size ≤ W.heap.size)
  (k1 : Keeps ga.toList W W1) (hg : ga = some g ∨ W.heap.size ≤ g) (hs : SliceAt W1 175 3 (some g) (ts.length + 1) c2 (triF ts ++ triL t))
  (k2 : Keeps [p12] W1 W2) (h12 : W2.heap[p12]? = some (.cells #[sv (some g) (ts.length + 1) c2] 187 (0, 0)))
  (k3 : Keeps [lb] W2 W') (hl : MapAt W' Tryz.prog 175 lb n (fun u => if u = triv t then some (.int .i64 d) else gL u)) :
  NJ' W0 dom F p9 p11 p12 fb lb nf gF (l ++ [(d, t)]) W' (some g) c2 (ts ++ [t]) (fun u => if u = triv t then some (.int .i64 d) else gL u) := by
 have hnd := h.nb.nd
 have hlt := h.lt
 simp only [List.nodup_cons, List.mem_cons, not_or] at hnd
 have hgne : g ≠ p9 ∧ g ≠ p11 ∧ g ≠ p12 ∧ g ≠ fb ∧ g ≠ lb := by
  rcases hg with rfl | hg
  ·simp at hnd; omega
  ·have h1 := hlt p9 (by simp)
   have h2 := hlt p11 (by simp)
   have h3 := hlt p12 (by simp)
   have h4 := hlt fb (by simp)
   have h5 := hlt lb (by simp)
   omega
 have hnl : ∀ u, triv u = triv t → u = t := fun u e => triv_inj e
 have hno : ∀ e, (e, t) ∉ l := fun e he => ht ((h.mem t).2 ⟨hf, e, he⟩)
 have hkey : ∀ v, IsKey Tryz.prog 175 v → (if v = triv t then some (Value.int .i64 d) else gL v) ≠ none → v ∈ dom.map triv := fun v hv hne => by
  by_cases e : v = triv t
  ·subst e; exact List.mem_map.2 ⟨t, hdm, rfl⟩
  ·rw [if_neg e] at hne; exact h.key v hv hne
 have n9 : p9 ∉ ga.toList := hnd.1.2.2.2.2
 have n11 : p11 ∉ ga.toList := hnd.2.1.2.2.2
 have nfb : fb ∉ ga.toList := hnd.2.2.2.1.2
 refine ⟨k3.cell (k2.cell (k1.cell h.c9 n9) (by simp; omega)) (by simp; omega), k3.cell (k2.cell (k1.cell h.c11 n11) (by simp; omega)) (by simp; omega), ?_, ((h.fm.keep k1 nfb).keep k2 (by simp; omega)).keep k3 (by simp; omega), by simpa using hl.tight triKeyed _ hkey, ?_, ?_, fun u => ?_, fun u hu => ?_, hkey, fun u hu hn => ?_, fun u hu => ?_, ⟨?_, fun x hx => ?_⟩, ((h.kp.after k1 (fun x hx => .inr (h.nb.ge x (by simp [hx])))).after k2 (fun x hx => .inr ?_)).after k3 (fun x hx => .inr ?_)⟩
 ·rw [List.length_append, List.length_singleton]
  exact k3.heap h12 (by simp; omega)
 ·rw [List.length_append, List.length_singleton, triF_append]
  have h5 := (hs.keep k2 (fun x hx => by simp at hx; subst hx; simp; omega)).keep k3 (fun x hx => by simp at hx; subst hx; simp; omega)
  simpa [triF] using h5
 ·rw [List.nodup_append]
  refine ⟨h.nd, by simp, fun u hu v hv e => ?_⟩
  simp at hv
  subst hv
  subst e
  exact ht hu
 ·rw [List.mem_append, List.mem_singleton, h.mem u]
  constructor
  ·rintro (⟨h1, e, h2⟩ | rfl)
   ·exact ⟨h1, e, mem_snoc.2 (.inl h2)⟩
   ·exact ⟨hf, d, mem_snoc.2 (.inr ⟨rfl, rfl⟩)⟩
  ·rintro ⟨h1, e, h2⟩
   rcases mem_snoc.1 h2 with h2 | ⟨_, rfl⟩
   ·exact .inl ⟨h1, e, h2⟩
   ·exact .inr rfl
 ·rcases List.mem_append.1 hu with hu | hu
  ·exact h.dm u hu
  ·simp at hu; subst hu; exact hdm
 ·have hne : u ≠ t := fun e => hn (by simp [e])
  rw [if_neg (fun e => hne (hnl u e))]
  exact h.out u hu (fun hm => hn (by simp [hm]))
 ·by_cases e : u = t
  ·subst e
   refine ⟨d, if_pos rfl, mem_snoc.2 (.inr ⟨rfl, rfl⟩), fun e he => ?_⟩
   rcases mem_snoc.1 he with he | ⟨rfl, _⟩
   ·exact absurd he (hno e)
   ·exact Int.le_refl _
  ·have hu2 : u ∈ ts := by
    rcases List.mem_append.1 hu with hu | hu
    ·exact hu
    ·simp at hu; exact absurd hu e
   obtain ⟨m', h1, h2, h3⟩ := h.at_ u hu2
   rw [if_neg (fun e2 => e (hnl u e2))]
   refine ⟨m', h1, mem_snoc.2 (.inl h2), fun e' he => ?_⟩
   rcases mem_snoc.1 he with he | ⟨_, e2⟩
   ·exact h3 e' he
   ·exact absurd e2 e
 ·simp only [List.nodup_cons, List.mem_cons, not_or, Option.toList_some, List.not_mem_nil, List.nodup_nil, not_false_eq_true, and_true]
  omega
 ·simp only [List.mem_cons, Option.toList_some, List.not_mem_nil, or_false] at hx
  have hge := h.nb.ge
  rcases hx with rfl | rfl | rfl | rfl | rfl | rfl
  ·exact hge _ (by simp)
  ·exact hge _ (by simp)
  ·exact hge _ (by simp)
  ·exact hge _ (by simp)
  ·exact hge _ (by simp)
  ·rcases hg with rfl | hg
   ·exact hge _ (by simp)
   ·omega
 ·simp at hx; subst hx; exact h.nb.ge _ (by simp)
 ·simp at hx; subst hx; exact h.nb.ge _ (by simp)
end
def NamePost (W0 : World) (dom : List Tri) (F : Tri → Prop) (p9 p11 p12 fb lb nf : Nat) (gF : Value → Option Value) (l : List (Int × Tri)) (ga : Option Nat) (W : World) (e : Ending) (W' : World) : Prop :=
 e = .returned (.tuple #[]) ∧ ∃ ga' c' ts' gL', NJ' W0 dom F p9 p11 p12 fb lb nf gF l W' ga' c' ts' gL' ∧ Keeps (p9 :: p11 :: p12 :: fb :: lb :: ga.toList) W W' ∧ ∀ x ∈ ga'.toList, x ∈ ga.toList ∨ W.heap.size ≤ x
theorem name_any {W0 : World} {dom : List Tri} {F : Tri → Prop} {p9 p11 p12 fb lb nf c : Nat} {gF gL : Value → Option Value} {l : List (Int × Tri)} {ga : Option Nat} {ts : List Tri} {W : World} (h : NJ' W0 dom F p9 p11 p12 fb lb nf gF l W ga c ts gL)
  (hF : ∀ t, TOK t → gF (triv t) = if F t then some (.bool true) else none) (hdl : dom.length ≤ 1000000) (t : Tri) (ht : TOK t) (hdm : t ∈ dom) (d : Int) :
  Calls Tryz.prog 114 #[.int .i64 d, triv t, .pointer (some ⟨p9, 0, none⟩), .pointer (some ⟨p11, 0, none⟩), .pointer (some ⟨p12, 0, none⟩)] W (NamePost W0 dom F p9 p11 p12 fb lb nf gF (l ++ [(d, t)]) ga W) := by
 obtain ⟨i0, hi0, hz0, hz1, hz2⟩ := infoParts infoT3
 have hlt := h.lt
 have hts := nodup_le h.nd h.dm
 obtain ⟨B, hB⟩ : ∃ B, B = W.heap.size := ⟨_, rfl⟩
 obtain ⟨X, hX⟩ : ∃ X, X = W.alloc (.cells (triL t).toArray 175) := ⟨_, rfl⟩
 have hkX : Keeps [] W X := by rw [hX]; exact Keeps.a1 _ _
 have hb : X.heap[B]? = some (.cells (triL t).toArray 175 (0, 0)) := by rw [hX, hB]; exact heap_alloc_new W _
 have b0 : X.cell? ⟨B, 0, none⟩ = some (.int .i64 t.1) := by simp [World.cell?, hb, triL]
 have b1 : X.cell? ⟨B, 1, none⟩ = some (.int .i64 t.2.1) := by simp [World.cell?, hb, triL]
 have b2 : X.cell? ⟨B, 2, none⟩ = some (.int .i64 t.2.2) := by simp [World.cell?, hb, triL]
 have hx := h.keep hkX (by simp)
 have c9 := hx.c9
 have c11 := hx.c11
 have c12 : X.cell? ⟨p12, 0, none⟩ = some (sv ga ts.length c) := by simp [World.cell?, hx.c12]
 have f12 : X.frozen? ⟨p12, 0, none⟩ = false := by simp [World.frozen?, hx.c12]
 have L1 := hx.fm.look false triKeyed Tryz.underlying191 (z := .bool false) (by kernel_rfl) (key3 ht)
 have L2 := hx.lm.look true triKeyed Tryz.underlying192 (z := .int .i64 0) (by kernel_rfl) (key3 ht)
 simp only [Bool.false_eq_true, if_false, if_true, hF t ht] at L1 L2
 have HX := gI (show W.alloc (.cells #[.int .i64 t.1, .int .i64 t.2.1, .int .i64 t.2.2] 175) = X by rw [hX]; rfl)
 have HB := gI hB
 have HKX := gI hkX
 have HH := gI hx
 have HLT := gI hlt
 have HI := gI hi0
 have HZ0 := gI hz0
 have HZ1 := gI hz1
 have HZ2 := gI hz2
 have HT := gI ht
 have HDM := gI hdm
 simp only [triv]
 simp only [triv] at L1 L2
 obtain ⟨t0, ht0⟩ : ∃ t0, t0 = t := ⟨_, rfl⟩
 by_cases hf : F t
 ·rw [if_pos hf] at L1
  simp only [Option.getD_some] at L1
  have HF := gI hf
  obtain ⟨x, y, z⟩ := t
  simp only at *
  clear h hX hB hkX hb hx ht hdm hi0 hz0 hz1 hz2 hf ht0 hlt
  go_enter Tryz.func114, Tryz.ntmps114
  go_upto_region 1 with fail
  rw [HX.out, ← HB.out]
  go_wp2
  refine bodyPost_ret (results_none rfl _ _ _) rfl ?_
  exact ⟨rfl, ga, c, ts, gL, HH.out.same (.inl HF.out), HKX.out.mono (by simp), fun x hx => .inl hx⟩
 ·rw [if_neg hf] at L1
  simp only [Option.getD_none] at L1
  by_cases hm : t ∈ ts
  ·obtain ⟨m, hg, hm1, hm2⟩ := h.at_ t hm
   simp only [triv] at hg
   rw [hg] at L2
   simp only [Option.getD_some, Option.isSome_some] at L2
   have HG := gI hg
   have HM := gI hm
   by_cases hdlt : d < m
   ·obtain ⟨x, y, z⟩ := t
    simp only at *
    clear h hX hB hkX hb hx ht hdm hi0 hz0 hz1 hz2 hf ht0 hlt hg hm hm1 hm2
    go_enter Tryz.func114, Tryz.ntmps114
    go_upto_region 1 with fail
    rw [HX.out, ← HB.out]
    go_wp2_with (at_mapUpdate; refine wpList_mapPut rfl _ _ _ 192 rfl 175 3 triKeyed Tryz.underlying192 lb dom.length gL rfl HH.out.lm (by unfold maxLen; omega) (key3 HT.out) ?_)
    intro w3 hm3 hk3
    have H3 := gI (HH.out.less (t := (x, y, z)) HM.out HG.out hdlt hk3 hm3)
    have K3 := gI ((HKX.out.mono (S' := p9 :: p11 :: p12 :: fb :: lb :: ga.toList) (by simp)).trans (hk3.mono (by intro x hx; simp at hx; subst hx; exact .inl (by simp))))
    clear hm3 hk3
    go_wp2
    go_end0
    exact ⟨rfl, ga, c, ts, _, H3.out, K3.out, fun x hx => .inl hx⟩
   ·have HD := gI (show m ≤ d by omega)
    obtain ⟨x, y, z⟩ := t
    simp only at *
    clear h hX hB hkX hb hx ht hdm hi0 hz0 hz1 hz2 hf ht0 hlt hg hm hm1 hm2
    go_enter Tryz.func114, Tryz.ntmps114
    go_upto_region 1 with fail
    rw [HX.out, ← HB.out]
    go_wp2
    go_end0
    exact ⟨rfl, ga, c, ts, gL, HH.out.same (d := d) (t := (x, y, z)) (.inr ⟨m, HG.out, HD.out, HM.out⟩), HKX.out.mono (by simp), fun x hx => .inl hx⟩
  ·have hg := h.out t ht hm
   simp only [triv] at hg
   rw [hg] at L2
   simp only [Option.getD_none, Option.isSome_none] at L2
   have HF := gI hf
   have HM := gI hm
   have hW0 := h.kp.size
   obtain ⟨x, y, z⟩ := t
   simp only at *
   have hXs : X.heap.size = W.heap.size + 1 := by rw [hX]; simp
   have HXS := gI hXs
   clear h hX hB hkX hb hx ht hdm hi0 hz0 hz1 hz2 hf ht0 hlt hg hm hXs
   go_enter Tryz.func114, Tryz.ntmps114
   go_upto_region 1 with fail
   rw [HX.out, ← HB.out]
   go_wp2_with (at_builtin; refine wpList_append_sl rfl (.tmp 20) (.tmp 22) 187 rfl 175 i0 _ 3 24 Tryz.underlying187 HI.out HZ0.out HZ1.out HZ2.out rfl (by decide) ga ts.length c (triF ts) rfl (HH.out.sl.alloc _) ⟨X.heap.size, 0, none⟩ 1 1 (triL (x, y, z)) rfl rfl ?hnews ?hone (by decide) (by omega) (by omega) ?hk)
   case hnews => exact news_row' _ _ _ _ rfl
   case hone => intro u hu; simp [triL] at hu; rcases hu with rfl | rfl | rfl <;> rfl
   case hk =>
    intro g c2 w2 hs2 hk2 hg2
    have hnd := HH.out.nb.nd
    have hlt := HLT.out
    simp only [List.nodup_cons, List.mem_cons, not_or] at hnd
    have hga : ∀ x, x ∈ ga.toList → x < W.heap.size := fun x hx => hlt x (by simp [hx])
    have kA : Keeps ga.toList X w2 := ((Keeps.refl [] X).alloc (.cells #[.int .i64 x, .int .i64 y, .int .i64 z] 175)).mono (by simp) |>.trans hk2
    have c11 := kA.cell c11 hnd.2.1.2.2.2
    have hB0 : B ∉ ga.toList := fun hm => by have := hga B hm; have := HB.out; omega
    have b0 := kA.cell b0 hB0
    have b1 := kA.cell b1 hB0
    have b2 := kA.cell b2 hB0
    have h12 := kA.heap HH.out.c12 hnd.2.2.1.2.2
    have c12 : w2.cell? ⟨p12, 0, none⟩ = some (sv ga ts.length c) := by simp [World.cell?, h12]
    have f12 : w2.frozen? ⟨p12, 0, none⟩ = false := by simp [World.frozen?, h12]
    have hset := heap_setCell_same w2 p12 0 _ _ (sv (some g) (ts.length + 1) c2) h12
    have kB : Keeps [p12] w2 (w2.setCell ⟨p12, 0, none⟩ (sv (some g) (ts.length + 1) c2)) := (Keeps.refl [p12] w2).setCell (by simp) _
    have hlm := (HH.out.lm.keep kA hnd.2.2.2.2.1).keep kB (by simp; omega)
    have H12 := gI (show (w2.setCell ⟨p12, 0, none⟩ (sv (some g) (ts.length + 1) c2)).heap[p12]? = some (.cells #[sv (some g) (ts.length + 1) c2] 187 (0, 0)) by rw [hset]; rfl)
    have HLM := gI hlm
    have KA := gI kA
    have KB := gI kB
    have HS2 := gI hs2
    have HG2 := gI (show ga = some g ∨ X.heap.size ≤ g by
     rcases hg2 with h | h
     ·exact .inl h
     ·exact .inr (by omega))
    have hB12 : B ≠ p12 := fun e => by have := hlt p12 (by simp); have := HB.out; omega
    have hp11 : p11 ≠ p12 := by omega
    have hb12' : ¬ B = p12 := hB12
    have hp11' : ¬ p11 = p12 := hp11
    have hb12'' : ¬ p12 = B := fun e => hB12 e.symm
    have hp11'' : ¬ p12 = p11 := fun e => hp11 e.symm
    clear hnd hlt hga kA h12 hset kB hlm hs2 hk2 hg2 hB0 L1 L2
    go_wp2_with (at_mapUpdate; refine wpList_mapPut rfl _ _ _ 192 rfl 175 3 triKeyed Tryz.underlying192 lb dom.length gL rfl HLM.out (by unfold maxLen; omega) (key3 HT.out) ?_)
    intro w3 hm3 hk3
    have H3 := gI (HH.out.new (t := (x, y, z)) HF.out HM.out HDM.out (by have := HXS.out; omega) KA.out HG2.out HS2.out KB.out H12.out hk3 hm3)
    have K3 := gI (show Keeps (p9 :: p11 :: p12 :: fb :: lb :: ga.toList) W w3 from (((HKX.out.mono (by simp)).trans (KA.out.mono (by intro x hx; exact .inl (by simp [hx])))).trans (KB.out.mono (by intro x hx; simp at hx; subst hx; exact .inl (by simp)))).trans (hk3.mono (by intro x hx; simp at hx; subst hx; exact .inl (by simp))))
    have HGE := gI (show ∀ x ∈ (some g).toList, x ∈ ga.toList ∨ W.heap.size ≤ x from fun x hx => by
     simp at hx
     subst hx
     rcases HG2.out with h | h
     ·exact .inl (by simp [h])
     ·exact .inr (by have := HXS.out; omega))
    clear hm3 hk3
    go_wp2
    go_end0
    exact ⟨rfl, some g, c2, ts ++ [(x, y, z)], _, H3.out, K3.out, HGE.out⟩
theorem name_ok {W0 : World} {dom : List Tri} {F : Tri → Prop} {OKs : Tri → Prop} {p9 p11 p12 fb lb nf : Nat} {gF : Value → Option Value} (hF : ∀ t, TOK t → gF (triv t) = if F t then some (.bool true) else none) (hdl : dom.length ≤ 1000000) (hOK : ∀ t, OKs t → TOK t ∧ t ∈ dom) :
  NameOK W0 OKs #[.pointer (some ⟨p9, 0, none⟩), .pointer (some ⟨p11, 0, none⟩), .pointer (some ⟨p12, 0, none⟩)] (NJ W0 dom F p9 p11 p12 fb lb nf gF) where
 ge := fun l U W ⟨ga, c, ts, gL, hU, h⟩ => ⟨fun x hx => ⟨h.nb.ge x (hU ▸ hx), h.lt x (hU ▸ hx)⟩, h.kp⟩
 stab := fun l U W W' S ⟨ga, c, ts, gL, hU, h⟩ k hS => ⟨ga, c, ts, gL, hU, h.keep k (fun x hx => ⟨hU ▸ (hS x hx).1, (hS x hx).2⟩)⟩
 step := fun l U W d t ⟨ga, c, ts, gL, hU, h⟩ ht => by
  subst hU
  refine (name_any h hF hdl t (hOK t ht).1 (hOK t ht).2 d).mono ?_
  rintro e W' ⟨rfl, ga', c', ts', gL', h1, h2, h3⟩
  refine ⟨rfl, _, ⟨ga', c', ts', gL', rfl, h1⟩, h2, fun x hx => ?_⟩
  simp only [List.mem_cons] at hx ⊢
  rcases hx with h | h | h | h | h | h
  ·exact .inl (.inl h)
  ·exact .inl (.inr (.inl h))
  ·exact .inl (.inr (.inr (.inl h)))
  ·exact .inl (.inr (.inr (.inr (.inl h))))
  ·exact .inl (.inr (.inr (.inr (.inr (.inl h)))))
  ·rcases h3 x h with h | h
   ·exact .inl (.inr (.inr (.inr (.inr (.inr h)))))
   ·exact .inr h
end Go.Proofs.YtkekenaamnhbhaaGreat
