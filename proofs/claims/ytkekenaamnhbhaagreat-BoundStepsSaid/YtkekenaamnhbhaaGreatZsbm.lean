/- Part 39 of the proof. No condition: every lemma says its own. -/
import Derived.Laws.EntriesVeiled
import Derived.Test.YtkekenaamnhbhaaGreatZsbi
import Derived.Test.YtkekenaamnhbhaaGreatZsbl
import Derived.Test.YtkekenaamnhbhaaGreatZsbg
import Derived.Test.YtkekenaamnhbhaaGreatZsag
import Derived.Test.YtkekenaamnhbhaaGreatZsba
namespace Go.Proofs.YtkekenaamnhbhaaGreat
open Go.RowKit
open Go.RowKit Go.Sort Go.BigFrame
set_option maxRecDepth 100000
set_option maxHeartbeats 16000000
def rdN (ins : List Ins) : Nat → List Int
 | 0 => []
 | k + 1 => match ins[k]? with | some i => (if i.op = 1 then rdN ins k ++ [(k : Int)] else rdN ins k) | none => rdN ins k
def rdS (ins : List Ins) : Nat → List Cl
 | 0 => []
 | k + 1 => match ins[k]? with | some i => (if i.op = 1 then rdS ins k ++ [⟨i.sa, i.sc, i.sp⟩] else rdS ins k) | none => rdS ins k
def dnN (ins : List Ins) : Nat → Int
 | 0 => -1
 | k + 1 => match ins[k]? with | some i => (if i.op = 0 ∧ dnN ins k = -1 then (k : Int) else dnN ins k) | none => dnN ins k
theorem rdN_succ {ins : List Ins} {k : Nat} (h : k < ins.length) : rdN ins (k + 1) = if ins[k].op = 1 then rdN ins k ++ [(k : Int)] else rdN ins k := by
 simp [rdN, h]
theorem rdS_succ {ins : List Ins} {k : Nat} (h : k < ins.length) : rdS ins (k + 1) = if ins[k].op = 1 then rdS ins k ++ [⟨ins[k].sa, ins[k].sc, ins[k].sp⟩] else rdS ins k := by
 simp [rdS, h]
theorem dnN_succ {ins : List Ins} {k : Nat} (h : k < ins.length) : dnN ins (k + 1) = if ins[k].op = 0 ∧ dnN ins k = -1 then (k : Int) else dnN ins k := by
 simp [dnN, h]
theorem rdS_length (ins : List Ins) : ∀ k, (rdS ins k).length = (rdN ins k).length
 | 0 => rfl
 | k + 1 => by
  unfold rdS rdN
  split
  ·split
   ·rw [List.length_append, List.length_append, rdS_length ins k]; rfl
   ·exact rdS_length ins k
  ·exact rdS_length ins k
theorem rdN_le (ins : List Ins) : ∀ k, (rdN ins k).length ≤ k
 | 0 => Nat.le_refl 0
 | k + 1 => by
  have := rdN_le ins k
  unfold rdN
  split
  ·split
   ·rw [List.length_append, List.length_singleton]; omega
   ·omega
  ·omega
theorem rdN_mem {ins : List Ins} : ∀ {k : Nat} {v : Int}, v ∈ rdN ins k → ∃ n : Nat, v = n ∧ n < k ∧ ∃ h : n < ins.length, ins[n].op = 1
 | 0, v, h => by simp [rdN] at h
 | k + 1, v, h => by
  by_cases hk : k < ins.length
  ·rw [rdN_succ hk] at h
   split at h
   ·rename_i ho
    rcases List.mem_append.1 h with h | h
    ·obtain ⟨n, h1, h2, h3⟩ := rdN_mem h
     exact ⟨n, h1, by omega, h3⟩
    ·rw [List.mem_singleton] at h
     exact ⟨k, h, by omega, hk, ho⟩
   ·obtain ⟨n, h1, h2, h3⟩ := rdN_mem h
    exact ⟨n, h1, by omega, h3⟩
  ·have e : rdN ins (k + 1) = rdN ins k := by simp [rdN, hk]
   rw [e] at h
   obtain ⟨n, h1, h2, h3⟩ := rdN_mem h
   exact ⟨n, h1, by omega, h3⟩
theorem rdS_mem {ins : List Ins} : ∀ {k : Nat} {c : Cl}, c ∈ rdS ins k → ∃ i ∈ ins, i.op = 1 ∧ c = ⟨i.sa, i.sc, i.sp⟩
 | 0, v, h => by simp [rdS] at h
 | k + 1, v, h => by
  by_cases hk : k < ins.length
  ·rw [rdS_succ hk] at h
   split at h
   ·rename_i ho
    rcases List.mem_append.1 h with h | h
    ·exact rdS_mem h
    ·rw [List.mem_singleton] at h
     exact ⟨ins[k], List.getElem_mem hk, ho, h⟩
   ·exact rdS_mem h
  ·have e : rdS ins (k + 1) = rdS ins k := by simp [rdS, hk]
   rw [e] at h
   exact rdS_mem h
def ofE (cls rds : List Cl) (nodes : List Int) (C : Nat → List Int) : Nat → List E4
 | 0 => []
 | k + 1 => edgesQ cls (rds.getD k ⟨none, 0, []⟩).sp (k : Int) (C ((nodes.getD k 0).toNat + 1)) (ofE cls rds nodes C k) nodes.length
theorem ofE_le (cls rds : List Cl) (nodes : List Int) (C : Nat → List Int) : ∀ k, (ofE cls rds nodes C k).length ≤ 65536 + cls.length
 | 0 => by simp [ofE]
 | k + 1 => edgesQ_le cls _ _ _ _ (ofE_le cls rds nodes C k) _
theorem sl_empty (w : World) (e size : Nat) : SliceAt (w.alloc (.cells #[] e)) e size (some w.heap.size) 0 0 [] :=
 ⟨by simp, #[], heap_alloc_new w _, Nat.le_refl _, by unfold maxLen; omega, by simp, by simp⟩
theorem ints_cells (xs : List Int) : ∀ u ∈ xs.map (Value.int .i64), u.oneCell' = true := by
 intro u hu
 obtain ⟨x, _, rfl⟩ := List.mem_map.1 hu
 rfl
theorem ints_src {w : World} {pa : Option Addr} {xs : List Int} (h : IntsIn w pa xs) : 0 < xs.length → ∃ ad, pa = some ad ∧ ∀ j u, (xs.map (Value.int .i64))[j]? = some u → w.cell? (ad.add j) = some u := fun h0 => by
 obtain ⟨b, off, rfl, hc⟩ := h h0
 refine ⟨⟨b, off, none⟩, rfl, fun j u hu => ?_⟩
 rw [List.getElem?_map] at hu
 obtain ⟨x, hx, rfl⟩ := Option.map_eq_some_iff.1 hu
 obtain ⟨hj, hx⟩ := List.getElem?_eq_some_iff.1 hx
 rw [show ((⟨b, off, none⟩ : Addr).add j) = ⟨b, off + j, none⟩ by unfold Addr.add; split <;> simp_all, hc j hj, List.getD_eq_getElem?_getD, List.getElem?_eq_getElem hj, Option.getD_some, hx]
theorem cloneI_any (pa : Option Addr) (pc : Nat) (xs : List Int) (w : World) (h : IntsIn w pa xs) (hnil : pa = none → xs = []) (hb : xs.length ≤ 1000000) :
  Calls Tryz.prog 56 #[.slice pa xs.length pc] w fun e w' => ∃ a c, e = .returned (sv a xs.length c) ∧ SliceAt w' 3 1 a xs.length c (xs.map (Value.int .i64)) ∧ Keeps [] w w' ∧ ∀ g, a = some g → w.heap.size ≤ g := by
 obtain ⟨i0, hi, hz0, hz1, hz2⟩ := infoParts infoInt
 have Hi := gI hi
 have Hz0 := gI hz0
 have Hz1 := gI hz1
 have Hz2 := gI hz2
 have HS := gI h
 clear hi hz0 hz1 hz2 h
 have hnl : ∀ (w : World) (a : Option Addr) (n c n' c' : Nat), (binOp .eql 22 (.slice a n c) (.slice none n' c')).run Tryz.prog w = .ok (.bool a.isNone) w := fun w a n c n' c' => Lib.run_eql_slice_nil w _ _ a n c n' c' Tryz.underlying22
 cases pa with
 | none =>
  have h0 := hnil rfl
  subst h0
  clear hnil
  go_enter Tryz.func56, Tryz.ntmps56
  go_wp2
  go_ret
  exact ⟨none, 0, rfl, SliceAt.nil _ _ _, Keeps.refl _ _, fun _ h => by cases h⟩
 | some a =>
  clear hnil
  go_enter Tryz.func56, Tryz.ntmps56
  go_wp2_with (at_builtin; refine wpList_append_any rfl (.tmp 5) (.tmp 6) 22 rfl 3 i0 _ 1 8 Tryz.underlying22 Hi.out Hz0.out Hz1.out Hz2.out rfl (by decide) (some w.heap.size) 0 0 [] rfl (sl_empty w _ _) (some a) xs.length pc (xs.map (Value.int .i64)) rfl (by simp) ?hns (ints_cells xs) (by omega) (by omega) ?hk)
  case hns =>
   have hh := ints_src (HS.out.keep (Keeps.a1 w (.cells #[] 3)))
   simpa using hh
  case hk =>
   intro a' c' w' hsl hk ha
   have HSL := gI hsl
   have HK := gI (show Keeps [] w w' from ((Keeps.refl [] w).alloc _).after hk (by intro x hx; simp at hx; exact .inr (by omega)))
   have HA := gI (show ∀ g, a' = some g → w.heap.size ≤ g by
    intro g hg
    subst hg
    rcases ha with h | ⟨g', h, h2⟩
    ·cases h; exact Nat.le_refl _
    ·cases h; have : w.heap.size ≤ (w.alloc (.cells #[] 3)).heap.size := by simp
     omega)
   clear hsl hk ha
   go_wp2
   go_ret
   exact ⟨a', c', by simp [sv], by simpa using HSL.out, HK.out, HA.out⟩
theorem indexE_any (K : Nat) (cap : Array Value) (l : List E4) (a : Option Addr) (c : Nat) (J : Nat → World → Prop) (w : World) (he : EntersA K) (hl : l.length ≤ 1000000) (h0 : J 0 w)
  (hrd : ∀ k W, J k W → EdIn W a l)
  (hf : ∀ k (hk : k < l.length) W, J k W → Calls Tryz.prog K (#[l[k].val] ++ cap) W fun e w' => e = .returned (.bool false) ∧ J (k + 1) w') :
  Calls Tryz.prog 94 #[.slice a l.length c, .func (.func K) #[] cap] w fun e w' => e = .returned (.int .i64 (-1)) ∧ J l.length w' := by
 have HRD := gI hrd
 have HF := gI hf
 have H0 := gI h0
 unfold EntersA at he
 clear hrd hf h0
 go_enter Tryz.func94, Tryz.ntmps94
 go_wp2
 go_loopw [8] (fun i wr => ∃ k : Nat, k ≤ l.length ∧ i = .int .i64 k ∧ J k wr) (fun i _ => l.length - (intOf i).toNat)
 case atStart => exact ⟨0, Nat.zero_le _, rfl, H0.out⟩
 case round =>
  obtain ⟨k, hkk, rfl, hj⟩ := hrel
  by_cases hlt : k < l.length
  ·obtain ⟨b, off, rfl, hc⟩ := HRD.out k wr hj (by omega)
   obtain ⟨e0, e1, e2, e3⟩ := hc k hlt
   have HC := HF.out k hlt wr hj
   unfold E4.val at HC
   obtain ⟨v, hv⟩ : ∃ v, v = l[k] := ⟨_, rfl⟩
   rw [← hv] at e0 e1 e2 e3 HC
   obtain ⟨v0, v1, v2, v3⟩ := v
   simp only at e0 e1 e2 e3 HC
   have HC := gI HC
   clear hc hj hv
   go_wp2_with fail
   refine Calls.mono HC.out ?_
   rintro e w2 ⟨rfl, hj2⟩
   have HJ2 := gI hj2
   clear hj2
   go_wp2
   go_roundw
   case rel => exact ⟨k + 1, by omega, by go_num, HJ2.out⟩
   case measure => simp [intOf]; omega
  ·obtain rfl : k = l.length := by omega
   have HJ := gI hj
   clear hj
   go_wp2
   go_ret
   exact ⟨rfl, HJ.out⟩
theorem containsE_any (K : Nat) (cap : Array Value) (l : List E4) (a : Option Addr) (c : Nat) (J : Nat → World → Prop) (w : World) (he : EntersA K) (hl : l.length ≤ 1000000) (h0 : J 0 w)
  (hrd : ∀ k W, J k W → EdIn W a l)
  (hf : ∀ k (hk : k < l.length) W, J k W → Calls Tryz.prog K (#[l[k].val] ++ cap) W fun e w' => e = .returned (.bool false) ∧ J (k + 1) w') :
  Calls Tryz.prog 60 #[.slice a l.length c, .func (.func K) #[] cap] w fun e w' => e = .returned (.bool false) ∧ J l.length w' := by
 have HC := gI (indexE_any K cap l a c J w he hl h0 hrd hf)
 clear he hrd hf h0
 go_enter Tryz.func60, Tryz.ntmps60
 go_wp2_with fail
 refine HC.out.mono ?_
 rintro e w2 ⟨rfl, hj⟩
 have HJ := gI hj
 clear hj
 go_wp2
 go_ret
 exact ⟨rfl, HJ.out⟩
theorem tooMany_any (n : Int) (w : World) (hn : n ≤ 1099511627776) : Calls Tryz.prog 58 #[.int .i64 n] w fun e w' => e = .returned (.bool false) ∧ w = w' := by
 have h : ¬ (1099511627776 : Int) < n := by omega
 go_enter Tryz.func58, Tryz.ntmps58
 go_wp2
 go_ret
 exact ⟨rfl, rfl⟩
theorem tooManyE_any (e : E4) (b : Nat) (w : World) (hb : w.cell? ⟨b, 0, none⟩ = some (.func (.func 58) #[] #[])) (hn : e.ws ≤ 1099511627776) : Calls Tryz.prog 61 #[e.val, .pointer (some ⟨b, 0, none⟩)] w fun r w' => r = .returned (.bool false) ∧ Keeps [] w w' := by
 obtain ⟨n, hnv⟩ : ∃ n, n = e.ws := ⟨_, rfl⟩
 have hbn : b ≠ w.heap.size := fun h => by have := World.block_lt_of_cell? _ _ hb; simp only at this; omega
 have HT := gI (fun W => tooMany_any n W (by omega))
 unfold E4.val
 rw [← hnv]
 have c0 := (Keeps.a1 w (.cells #[.int .i64 e.fr, .int .i64 e.tt, .int .i64 e.cl, .int .i64 n] 125)).cell hb (by simp)
 clear hnv hn
 go_enter Tryz.func61, Tryz.ntmps61
 go_wp2_with fail
 refine (HT.out _).mono ?_
 rintro e w2 ⟨rfl, rfl⟩
 go_wp2
 go_ret
 exact ⟨rfl, Keeps.a1 _ _⟩
section
theorem res_row_tmp {P : Program} {fn : Func} {p q : Tmp} {ty : TypeId} (h : fn.results = #[.cell p ty, .tmp q]) (tmps : Array Value) (w : World) (g : Nat) (t : TypeId) (cs : Array Value) (fr : Nat × Nat) (d : TypeDesc)
  (hp : tmps.getD p undef = .pointer (some ⟨g, 0, none⟩)) (hg : w.heap[g]? = some (.cells cs t fr))
  (hu : P.underlying ty = some d) (hd : (match d with | .struct _ | .array _ _ => true | _ => false) = true) (hi : (P.info? ty).map (·.size) = some cs.size) :
  (results fn tmps).run P w = .ok (.tuple #[.agg cs, tmps.getD q undef]) w := by
 have hp' : tmps[p]?.getD undef = .pointer (some ⟨g, 0, none⟩) := by simpa using hp
 simp [results, h, hp', asAddr, run_loadVar_row w g t ty cs fr d hg hu hd hi]
theorem sizeGr : (Tryz.prog.info? 89).map (·.size) = some 4 := by kernel_rfl
def clV (c : Cl) : Value := .slice c.a c.sp.length c.c
structure O1 (Y wr : World) (BX : Nat) (nl : List Int) (rl : List Cl) (a1 : Option Nat) (c1 : Nat) (a2 : Option Nat) (c2 : Nat) : Prop where
 kp : Keeps [BX] Y wr
 box : wr.heap[BX]? = some (.cells #[.slice none 0 0, .slice (a1.map fun g => ⟨g, 0, none⟩) nl.length c1, .slice none 0 0, .slice none 0 0] 89 (0, 0))
 nod : SliceAt wr 3 1 a1 nl.length c1 (nl.map (Value.int .i64))
 rd : SliceAt wr 52 1 a2 rl.length c2 (rl.map clV)
 n1 : ∀ g, a1 = some g → Y.heap.size ≤ g
 n2 : ∀ g, a2 = some g → Y.heap.size ≤ g
 ne : ∀ g, a1 = some g → a2 ≠ some g
 lt : BX < Y.heap.size
variable {Y wr w' : World} {BX : Nat} {nl : List Int} {rl : List Cl} {a1 : Option Nat} {c1 : Nat} {a2 : Option Nat} {c2 : Nat}
theorem O1.keep (h : O1 Y wr BX nl rl a1 c1 a2 c2) (k : Keeps [] wr w') : O1 Y w' BX nl rl a1 c1 a2 c2 :=
 ⟨h.kp.trans (k.mono (by simp)), k.heap h.box (by simp), h.nod.keep k (by simp), h.rd.keep k (by simp), h.n1, h.n2, h.ne, h.lt⟩
theorem O1.cells (h : O1 Y wr BX nl rl a1 c1 a2 c2) : wr.cell? ⟨BX, 1, none⟩ = some (.slice (a1.map fun g => ⟨g, 0, none⟩) nl.length c1) ∧ ∀ i, wr.frozen? ⟨BX, i, none⟩ = false :=
 ⟨by simp [World.cell?, h.box], fun i => by simp [World.frozen?, h.box]⟩
theorem O1.node (h : O1 Y wr BX nl rl a1 c1 a2 c2) {g c' : Nat} {v : Int} (hs : SliceAt w' 3 1 (some g) (nl.length + 1) c' (nl.map (Value.int .i64) ++ [.int .i64 v])) (k : Keeps a1.toList wr w') (hg : a1 = some g ∨ wr.heap.size ≤ g) :
  O1 Y (w'.setCell ⟨BX, 1, none⟩ (.slice (some ⟨g, 0, none⟩) (nl.length + 1) c')) BX (nl ++ [v]) rl (some g) c' a2 c2 := by
 have hgY : Y.heap.size ≤ g := by
  rcases hg with hg | hg
  ·exact h.n1 g hg
  ·have := h.kp.size; omega
 have hgB : g ≠ BX := by have := h.lt; omega
 have hb : w'.heap[BX]? = some _ := k.heap h.box (fun hm => by have := h.n1 BX (by simpa using hm); have := h.lt; omega)
 have k2 : Keeps [BX] w' (w'.setCell ⟨BX, 1, none⟩ (.slice (some ⟨g, 0, none⟩) (nl.length + 1) c')) := (Keeps.refl [BX] w').setCell (by simp) _
 refine ⟨(h.kp.after k (fun x hx => .inr (h.n1 x (by simpa using hx)))).trans k2, ?_, ?_, ?_, ?_, h.n2, ?_, h.lt⟩
 ·rw [heap_setCell_same _ BX 1 _ _ _ hb]
  simp
 ·rw [List.length_append, List.length_singleton, List.map_append]
  exact hs.keep k2 (fun q hq => by cases hq; simpa using hgB)
 ·refine (h.rd.keep k (fun q hq hm => ?_)).keep k2 (fun q hq hm => ?_)
  ·exact h.ne q (by simpa using hm) hq
  ·have := h.n2 q hq
   simp at hm
   have := h.lt
   omega
 ·rintro q ⟨⟩; exact hgY
 ·rintro q ⟨⟩ hq
  rcases hg with hg | hg
  ·exact h.ne _ hg hq
  ·subst hq
   have := h.rd.lt
   omega
theorem O1.read (h : O1 Y wr BX nl rl a1 c1 a2 c2) {g c' : Nat} {v : Cl} (hs : SliceAt w' 52 1 (some g) (rl.length + 1) c' (rl.map clV ++ [clV v])) (k : Keeps a2.toList wr w') (hg : a2 = some g ∨ wr.heap.size ≤ g) :
  O1 Y w' BX nl (rl ++ [v]) a1 c1 (some g) c' := by
 have hgY : Y.heap.size ≤ g := by
  rcases hg with hg | hg
  ·exact h.n2 g hg
  ·have := h.kp.size; omega
 have hb : w'.heap[BX]? = some _ := k.heap h.box (fun hm => by have := h.n2 BX (by simpa using hm); have := h.lt; omega)
 refine ⟨h.kp.after k (fun x hx => .inr (h.n2 x (by simpa using hx))), hb, ?_, ?_, h.n1, ?_, ?_, h.lt⟩
 ·exact h.nod.keep k (fun q hq hm => h.ne q hq (by simpa using hm))
 ·rw [List.length_append, List.length_singleton, List.map_append]
  exact hs
 ·rintro q ⟨⟩; exact hgY
 ·rintro q hq ⟨⟩
  rcases hg with hg | hg
  ·exact h.ne _ hq hg
  ·subst hq
   have := h.nod.lt
   omega
theorem O1.start {Y : World} {BX : Nat} (h : Y.heap[BX]? = some (.cells #[.slice none 0 0, .slice none 0 0, .slice none 0 0, .slice none 0 0] 89 (0, 0))) : O1 Y Y BX [] [] none 0 none 0 :=
 ⟨Keeps.refl _ _, h, SliceAt.nil _ _ _, SliceAt.nil _ _ _, (fun g h => by cases h), (fun g h => by cases h), (fun g h => by cases h), lt_of_block h⟩
theorem Keeps.now {b t : Nat} {W w : World} {cs0 cs : Array Value} (k : Keeps [b] W w) (h0 : W.heap[b]? = some (.cells cs0 t (0, 0))) (h : w.heap[b]? = some (.cells cs t (0, 0))) : Keeps [] (W.setRow b cs) w ∧ Keeps [b] W (W.setRow b cs) ∧ (W.setRow b cs).heap.size = W.heap.size := by
 have k1 : Keeps [b] W (W.setRow b cs) := (Keeps.refl [b] W).setRow (by simp) cs
 have hs : (W.setRow b cs).heap.size = W.heap.size := by
  simp [World.setRow]
 refine ⟨⟨?_, ?_, ?_, by rw [hs]; exact k.size, fun j hj _ => ?_⟩, k1, hs⟩
 ·rw [k.os, k1.os]
 ·rw [k.tape, k1.tape]
 ·rw [k.output, k1.output]
 ·rw [hs] at hj
  by_cases e : j = b
  ·subst e
   rw [setRow_heap W j _ cs t (0, 0) h0, h]
  ·rw [setRow_other _ _ _ _ e]
   exact k.block j hj (by simpa using e)
theorem clsIn_sl {w : World} {t : Nat} {a : Option Nat} {n c : Nat} {l : List Cl} (h : SliceAt w t 1 a n c (l.map clV)) (hn : n = l.length) : ClsIn w (a.map fun g => ⟨g, 0, none⟩) l := fun h0 => by
 cases a with
 | none => have := h.2.1; omega
 | some g =>
  refine ⟨g, 0, rfl, fun i hi => ?_⟩
  have h1 := h.cell i (by simpa using hi)
  rw [List.getElem_map] at h1
  rw [Nat.zero_add]
  exact h1
theorem spIn_sl {w : World} {t : Nat} {a : Option Nat} {c : Nat} {l : List (Int × Int)} (h : SliceAt w t 2 a l.length c (spF l)) : SpIn w (a.map fun g => ⟨g, 0, none⟩) l := by
 intro h0
 obtain ⟨g, rfl⟩ := SliceAt.some_of h h0
 refine ⟨g, 0, rfl, fun i hi => ?_⟩
 have hi2 : i < (l.map t2).length := by simpa using hi
 have hg := prF_get (l.map t2) [] i hi2
 rw [List.append_nil] at hg
 have hc := fun q (hq : q < (spF l).length) => h.cell q hq
 have e1 : i * 2 < (spF l).length := by rw [spF_length]; omega
 have e2 : i * 2 + 1 < (spF l).length := by rw [spF_length]; omega
 have ey : (l.map t2).getD i z0 = t2 l[i] := by simp [List.getD_eq_getElem?_getD, hi]
 refine ⟨?_, ?_⟩
 ·rw [Nat.zero_add, hc _ e1, ← List.getElem?_eq_getElem e1]; exact hg.1.trans (by rw [ey]; rfl)
 ·rw [Nat.zero_add, hc _ e2, ← List.getElem?_eq_getElem e2]; exact hg.2.trans (by rw [ey]; rfl)
def clR (R : List Row) : List Cl := R.map fun r => ⟨r.b.map fun g => ⟨g, 0, none⟩, r.c, r.sp⟩
theorem clR_cls {w0 w : World} {a : Option Nat} {c : Nat} {R : List Row} (h : RowsAt w0 w a c R) : ClsIn w (a.map fun g => ⟨g, 0, none⟩) (clR R) ∧ ∀ k ∈ clR R, SpIn w k.a k.sp := by
 refine ⟨clsIn_sl (t := 52) (n := R.length) (c := c) ?_ (by simp [clR]), fun k hk => ?_⟩
 ·have h1 := h.out
  rw [show R.map rowV = (clR R).map clV by simp [clR, clV, Function.comp_def, rowV]] at h1
  exact h1
 ·obtain ⟨r, hr, rfl⟩ := List.mem_map.1 hk
  obtain ⟨i, hi, rfl⟩ := List.getElem_of_mem hr
  exact spIn_sl (h.row i hi)
theorem NS.now {W00 w w' : World} {m N : Nat} {C : Nat → List Int} {p5 p3 p2 p6 kb b t : Nat} {cs0 cs : Array Value} {sl : Nat → Option Nat × Nat} (h : NS W00 m N C p5 p3 p2 p6 kb sl w) (k : Keeps [b] w w') (h0 : W00.heap[b]? = some (.cells cs0 t (0, 0))) (h1 : w'.heap[b]? = some (.cells cs t (0, 0))) (hp5 : p5 ≠ b) (hp6 : p6 ≠ b)
  (hs : ∀ i, i < m → (sl i).1 ≠ some b) : NS (W00.setRow b cs) m N C p5 p3 p2 p6 kb sl w' := by
 have hb := lt_of_block h0
 have hkb : kb ≠ b := by have := h.nm.2.2; omega
 have kk : Keeps [b] W00 w' := (h.kp.mono (by simp)).trans k
 obtain ⟨k1, k2, k3⟩ := kk.now h0 h1
 exact ⟨k1, k.cell h.c5 (by simpa using hp5), k.cell h.c6 (by simpa using hp6), k.heap h.row (by simpa using hkb), fun i hi g hg => ⟨(h.sls i hi g hg).1.keep k (fun q hq hm => by
  simp only [Option.some.injEq] at hq
  simp only [List.mem_singleton] at hm
  subst hq
  exact hs i hi (by rw [hg, hm])), (h.sls i hi g hg).2⟩, h.nil, by rw [k3]; exact h.nm⟩
structure O3 (Wb W00 Wc : World) (BX m N : Nat) (C : Nat → List Int) (p5 p3 p2 p6 kb : Nat) (vc vn vf : Value) (af : Nat) (cf : Nat) (r : List E4) (ae : Option Nat) (ce : Nat) (w : World) : Prop where
 kp : Keeps [BX] Wb w
 sz : Wc.heap.size ≤ w.heap.size
 box : w.heap[BX]? = some (.cells #[vc, vn, vf, .slice (ae.map fun g => ⟨g, 0, none⟩) r.length ce] 89 (0, 0))
 ns : ∃ W01 sl, Keeps [BX] W00 W01 ∧ W01.heap.size = W00.heap.size ∧ NS W01 m N C p5 p3 p2 p6 kb sl w ∧ ∀ i, i < m → ∀ g, (sl i).1 = some g → ae ≠ some g ∧ g ≠ BX ∧ g ≠ af
 el : SliceAt w 125 4 ae r.length ce (flatE r)
 en : ∀ g, ae = some g → Wc.heap.size ≤ g
 fst : SliceAt w 3 1 (some af) (C 0).length cf ((C 0).map (Value.int .i64))
theorem O3.cells {Wb W00 Wc w : World} {BX m N : Nat} {C : Nat → List Int} {p5 p3 p2 p6 kb : Nat} {vc vn vf : Value} {af : Nat} {cf : Nat} {r : List E4} {ae : Option Nat} {ce : Nat} (h : O3 Wb W00 Wc BX m N C p5 p3 p2 p6 kb vc vn vf af cf r ae ce w) :
  w.cell? ⟨BX, 0, none⟩ = some vc ∧ w.cell? ⟨BX, 1, none⟩ = some vn ∧ w.cell? ⟨BX, 2, none⟩ = some vf ∧ w.cell? ⟨BX, 3, none⟩ = some (.slice (ae.map fun g => ⟨g, 0, none⟩) r.length ce) ∧ w.frozen? ⟨BX, 3, none⟩ = false := by
 simp [World.cell?, World.frozen?, h.box]
theorem O3.drew {Wb W00 Wc w : World} {BX m N : Nat} {C : Nat → List Int} {p5 p3 p2 p6 kb : Nat} {vc vn vf : Value} {af : Nat} {cf : Nat} {r : List E4} {ae : Option Nat} {ce : Nat} (h : O3 Wb W00 Wc BX m N C p5 p3 p2 p6 kb vc vn vf af cf r ae ce w) :
  O3 Wb W00 Wc BX m N C p5 p3 p2 p6 kb vc vn vf af cf r ae ce w.drew := by
 obtain ⟨W01, sl, h1, h2, h3, h4⟩ := h.ns
 exact ⟨h.kp.drew, h.sz, h.box, ⟨W01, sl, h1, h2, h3.keep ((Keeps.refl [] w).drew), h4⟩, h.el.keep ((Keeps.refl [] w).drew) (by simp), h.en, h.fst.keep ((Keeps.refl [] w).drew) (by simp)⟩
structure O3E (Wb W00 Wc : World) (BX p5 p3 p2 p6 kb af : Nat) : Prop where
 bx : BX < Wb.heap.size
 w0 : Wb.heap.size ≤ W00.heap.size
 wc : W00.heap.size ≤ Wc.heap.size
 pb : Wb.heap.size ≤ p5 ∧ Wb.heap.size ≤ p3 ∧ Wb.heap.size ≤ p2 ∧ Wb.heap.size ≤ p6
 kb0 : W00.heap.size ≤ kb
 pc : p5 < Wc.heap.size ∧ p6 < Wc.heap.size ∧ kb < Wc.heap.size ∧ af < Wc.heap.size
 af0 : Wb.heap.size ≤ af ∧ af ≠ kb
theorem O3.next {Wb W00 Wc w : World} {BX m N : Nat} {C : Nat → List Int} {p5 p3 p2 p6 kb : Nat} {vc vn vf : Value} {af : Nat} {cf : Nat} {r : List E4} {ae : Option Nat} {ce : Nat} (E : O3E Wb W00 Wc BX p5 p3 p2 p6 kb af) (h : O3 Wb W00 Wc BX m N C p5 p3 p2 p6 kb vc vn vf af cf r ae ce w)
  {W01 : World} {sl sl' : Nat → Option Nat × Nat} (hW : Keeps [BX] W00 W01) (hWs : W01.heap.size = W00.heap.size) (hap : ∀ i, i < m → ∀ g, (sl i).1 = some g → ae ≠ some g ∧ g ≠ BX ∧ g ≠ af) {w1 w2 : World} (k1 : Keeps [kb] w w1) (n1 : NS W01 m N C p5 p3 p2 p6 kb sl' w1)
  (hsl : ∀ i, i < m → ∀ g, (sl' i).1 = some g → (sl i).1 = some g ∨ w.heap.size ≤ g) {a' : Option Nat} {c' : Nat} {r' : List E4} (k2 : Keeps ae.toList w1 w2) (e2 : SliceAt w2 125 4 a' r'.length c' (flatE r')) (ha : ∀ q, a' = some q → ae = some q ∨ w1.heap.size ≤ q) :
  O3 Wb W00 Wc BX m N C p5 p3 p2 p6 kb vc vn vf af cf r' a' c' (w2.setCell ⟨BX, 3, none⟩ (.slice (a'.map fun g => ⟨g, 0, none⟩) r'.length c')) := by
 obtain ⟨w3, hw3⟩ : ∃ w3, w3 = w2.setCell ⟨BX, 3, none⟩ (.slice (a'.map fun g => ⟨g, 0, none⟩) r'.length c') := ⟨_, rfl⟩
 have E1 := E.bx; have E2 := E.w0; have E3 := E.wc; have E4 := E.pb; have E5 := E.kb0; have E6 := E.pc; have E7 := E.af0
 have kB : Keeps [BX] w2 w3 := by rw [hw3]; exact (Keeps.refl [BX] w2).setCell (by simp) _
 have hs1 := k1.size
 have hs2 := k2.size
 have hsz := h.sz
 have hae : ∀ g, ae = some g → Wc.heap.size ≤ g ∧ g < w.heap.size := fun g hg => ⟨h.en g hg, by have h1 := h.el; rw [hg] at h1; exact h1.lt⟩
 have hBa : BX ∉ ae.toList := fun hm => by have := (hae BX (by simpa using hm)).1; omega
 have hb1 := k1.heap h.box (by simp; omega)
 have hb2 := k2.heap hb1 hBa
 have hb3 : w3.heap[BX]? = some (.cells #[vc, vn, vf, .slice (a'.map fun g => ⟨g, 0, none⟩) r'.length c'] 89 (0, 0)) := by
  rw [hw3, heap_setCell_same _ BX 3 _ _ _ hb2]
  simp
 have n2 : NS W01 m N C p5 p3 p2 p6 kb sl' w2 := by
  cases hq : ae with
  | none => rw [hq] at k2; exact n1.keep k2
  | some g0 =>
   rw [hq] at k2
   have hg0 := hae g0 hq
   refine n1.other k2 ⟨by omega, by omega, by omega, by omega⟩ fun i hi hm => ?_
   rcases hsl i hi g0 hm with e | e
   ·exact (hap i hi g0 e).1 hq
   ·omega
 have hsB : ∀ i, i < m → ∀ g, (sl' i).1 = some g → g ≠ BX ∧ g ≠ af := fun i hi g hg => by
  rcases hsl i hi g hg with e | e
  ·exact (hap i hi g e).2
  ·omega
 have h0 : W01.heap[BX]? = _ := (n2.kp.block BX (by omega) (by simp)).symm.trans hb2
 have n3 := n2.now kB h0 hb3 (by omega) (by omega) fun i hi hm => (hsB i hi BX hm).1 rfl
 rw [← hw3]
 refine ⟨((h.kp.after k1 (fun x hx => .inr (by simp at hx; subst hx; omega))).after k2 (fun x hx => .inr (by have := (hae x (by simpa using hx)).1; omega))).trans kB, by have := kB.size; omega, hb3, ⟨_, sl', hW.trans ((Keeps.refl [BX] W01).setRow (by simp) _), ?_, n3, fun i hi g hg => ⟨fun hq => ?_, hsB i hi g hg⟩⟩, ?_, fun g hg => ?_, ?_⟩
 ·rw [← hWs]
  simp [World.setRow]
 ·have hlt := ((n1.sls i hi g hg).1).lt
  rcases ha g hq with e | e
  ·rcases hsl i hi g hg with e' | e'
   ·exact (hap i hi g e').1 e
   ·have := (hae g e).2; omega
  ·omega
 ·refine e2.keep kB fun g hg hm => ?_
  simp only [List.mem_singleton] at hm
  subst hm
  rcases ha _ hg with e | e
  ·have := (hae _ e).1; omega
  ·omega
 ·rcases ha g hg with e | e
  ·exact (hae g e).1
  ·omega
 ·refine ((h.fst.keep k1 fun g hg hm => ?_).keep k2 fun g hg hm => ?_).keep kB fun g hg hm => ?_
  ·simp only [List.mem_singleton] at hm; cases hg; omega
  ·cases hg; have := (hae _ (by simpa using hm)).1; omega
  ·simp only [List.mem_singleton] at hm; cases hg; omega
end
end Go.Proofs.YtkekenaamnhbhaaGreat
