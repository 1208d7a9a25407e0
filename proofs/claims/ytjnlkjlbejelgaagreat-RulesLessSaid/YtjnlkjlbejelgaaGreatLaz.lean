/- Part 26 of the proof. No condition: every lemma says its own. -/
import Derived.Test.YtjnlkjlbejelgaaGreatLar
import Derived.Test.YtjnlkjlbejelgaaGreatLaf
import Derived.Test.YtjnlkjlbejelgaaGreatLaq
namespace Go.Proofs.YtjnlkjlbejelgaaGreat
open Go.RowKit
open Go.Value renaming int→H,slice→M,bool→F
open Go.IntKind renaming i64→J
set_option maxRecDepth 100000
set_option maxHeartbeats 16000000
def Left (lf:Int) (d:Nat) (lf':Int) (t:Tree):Prop:=(sizeT t:Int)≤lf - lf'∧(lf - 1≤lf'∨2 - 2 * (d:Int)≤lf')∧depthT t≤d + 1
def Inner (lf:Int) (d:Nat) (lf':Int) (t:Tree):Prop:=(sizeT t:Int)≤1 + lf - lf'∧-(2 * (d:Int))≤lf'∧depthT t≤d + 2
def Lone (lf:Int) (lf':Int) (t:Tree):Prop:=lf'=lf∧sizeT t=1∧depthT t=1
theorem Inner.left {lf:Int} {d:Nat} {lf':Int} {t:Tree} (h:Inner (lf - 1) d lf' t):Left lf (d + 1) lf' t:=by
 obtain ⟨h1,h2,h3⟩:=h;exact ⟨by omega,.inr (by omega),h3⟩
theorem Lone.left {lf:Int} {d:Nat} {lf':Int} {t:Tree} (h:Lone (lf - 1) lf' t):Left lf d lf' t:=by
 obtain ⟨h1,h2,h3⟩:=h;exact ⟨by omega,.inl (by omega),by omega⟩
def GenPost (w:World) (g:Nat) (la:Option Addr) (lc:Nat) (zs:List Int) (uses:Int) (P:Int→Tree→Prop) (bd:Nat) (e:Ending) (w':World):Prop:=
 ∃ (m:MRe) (lf':Int),e=.returned m.val∧m.OK w'∧MakerAt w' g la lc zs uses lf'∧Keeps [g] w w'∧Fresh w.heap.size m.blocks∧m.tree.WF∧m.tree.bulk≤bd∧P lf' m.tree
theorem allocs_get {w W:World} {l:List Obj} (h:W.heap.toList=w.heap.toList ++ l) (i:Nat):W.heap[w.heap.size + i]? =l[i]?:=by
 rw [←Array.getElem?_toList,h,List.getElem?_append_right (by simp)]
 simp
theorem MakerAt.lt {w:World} {g:Nat} {la lc zs uses lf} (h:MakerAt w g la lc zs uses lf):g < w.heap.size:=by
 obtain ⟨_,_,_,_,hr⟩:=h.row;exact lt_of_block hr
theorem MakerAt.keepB {w V V':World} {g B:Nat} {la lc zs uses lf0 lf} (h0:MakerAt w g la lc zs uses lf0) (h:MakerAt V g la lc zs uses lf) (hB:w.heap.size≤B) (k:Keeps [B] V V'):MakerAt V' g la lc zs uses lf:=by
 obtain ⟨a,c,h1,h2,hr⟩:=h.row;have hg:=h0.lt;exact ⟨h.ints.keepN k (fun hp a ha=> by have:=(h0.sep hp a ha).1;simp;omega),h.len,h.i64,fun hp a ha=> ⟨Nat.lt_of_lt_of_le (h.sep hp a ha).1 k.size,(h.sep hp a ha).2⟩,a,c,h1,h2,k.heap hr (by simp;omega)⟩
theorem gen_store {w V:World} {g B T:Nat} {la lc zs uses lf0 lf} {op sa sc set ka kc kids mn mx mode n neg} (h0:MakerAt w g la lc zs uses lf0) (hm:MakerAt V g la lc zs uses lf) (hk:Keeps [g] w V) (hB:w.heap.size≤B)
  (hz:V.heap[B]? =some (.cells #[H J 0,M none 0 0,M none 0 0,H J 0,H J 0,H J 0,H J 0,F false] T (0,0))) (ok:MRe.OK V (.node op sa sc set ka kc kids mn mx mode n neg)) (hfr:∀ b∈(MRe.blocks (.node op sa sc set ka kc kids mn mx mode n neg)),w.heap.size≤b∧b≠B):
  (set8 V B (H J op) (M sa set.length sc) (M ka kids.length kc) (H J mn) (H J mx) (H J mode) (H J n) (F neg)).heap[B]? =some (.cells #[H J op,M sa set.length sc,M ka kids.length kc,H J mn,H J mx,H J mode,H J n,F neg] T (0,0))∧
  MRe.OK (set8 V B (H J op) (M sa set.length sc) (M ka kids.length kc) (H J mn) (H J mx) (H J mode) (H J n) (F neg)) (.node op sa sc set ka kc kids mn mx mode n neg)∧
  MakerAt (set8 V B (H J op) (M sa set.length sc) (M ka kids.length kc) (H J mn) (H J mx) (H J mode) (H J n) (F neg)) g la lc zs uses lf∧
  Keeps [g] w (set8 V B (H J op) (M sa set.length sc) (M ka kids.length kc) (H J mn) (H J mx) (H J mode) (H J n) (F neg))∧
  Fresh w.heap.size (MRe.blocks (.node op sa sc set ka kc kids mn mx mode n neg)):=by
 have hk8:=set8_keeps V B (H J op) (M sa set.length sc) (M ka kids.length kc) (H J mn) (H J mx) (H J mode) (H J n) (F neg);exact ⟨set8_heap hz _ _ _ _ _ _ _ _,ok.keepS hk8 fun b hb=> by have:=(hfr b hb).2;simp;omega,h0.keepB hm hB hk8,hk.after hk8 (by intro x hx;simp at hx;subst hx;exact .inr hB),fun b hb=> (hfr b hb).1⟩
def setRow:List Obj:=[.cells #[H J 0,M none 0 0,M none 0 0,H J 0,H J 0,H J 0,H J 0,F false] 26,
 .cells #[H J 97,H J 97] 86,.cells #[H J 98,H J 98] 86,.cells #[H J 97,H J 98] 86,.cells #[H J 99,H J 99] 86,.cells #[H J 97,H J 99] 86,
 .cells #[H J 0,H J 96,H J 98,H J 255] 86,.cells #[H J 10,H J 10,H J 97,H J 97] 86,.cells #[] 86]
def setOuter (B:Nat):Obj:=.cells #[M (some ⟨B + 1,0,none⟩) 1 1,M (some ⟨B + 2,0,none⟩) 1 1,M (some ⟨B + 3,0,none⟩) 1 1,M (some ⟨B + 4,0,none⟩) 1 1,M (some ⟨B + 5,0,none⟩) 1 1,M (some ⟨B + 6,0,none⟩) 2 2,M (some ⟨B + 7,0,none⟩) 2 2,M (some ⟨B + 8,0,none⟩) 0 0] 23
theorem set_case {w W V:World} {g:Nat} (hg:g < w.heap.size) (h:W.heap.toList=w.heap.toList ++ (setRow ++ [setOuter w.heap.size])) (hk:Keeps [g] W V) (q:Nat) (hq:q < 8):
  ∃ sa set sc,V.cell? ⟨w.heap.size + 9,q,none⟩=some (M sa set.length sc)∧SpansIn V sa sc set∧SpansOK set∧set.length≤2∧∀ b∈blockIf set.length sa,w.heap.size < b:=by
 have hh:∀ i o,(setRow ++ [setOuter w.heap.size])[i]? =some o→V.heap[w.heap.size + i]? =some o:=fun i o ho=> hk.heap (by rw [allocs_get h,ho]) (by simp;omega);have h9:V.heap[w.heap.size + 9]? =some (setOuter w.heap.size):=hh 9 _ rfl;have hc:∀ v,(match setOuter w.heap.size with | .cells cs _ _=> cs[q]? | _=> none)=some v→V.cell? ⟨w.heap.size + 9,q,none⟩=some v:=fun v hv=> by
  simp only [World.cell?,h9];exact hv
 obtain rfl | rfl | rfl | rfl | rfl | rfl | rfl | rfl:q=0∨q=1∨q=2∨q=3∨q=4∨q=5∨q=6∨q=7:=by omega
 ·exact ⟨_,[(97,97)],1,hc _ rfl,SpansIn.of_block (set:=[(97,97)]) (hh 1 _ rfl) rfl (by simp [maxLen]),by simp [SpansOK],by simp,by simp [blockIf]⟩
 ·exact ⟨_,[(98,98)],1,hc _ rfl,SpansIn.of_block (set:=[(98,98)]) (hh 2 _ rfl) rfl (by simp [maxLen]),by simp [SpansOK],by simp,by simp [blockIf]⟩
 ·exact ⟨_,[(97,98)],1,hc _ rfl,SpansIn.of_block (set:=[(97,98)]) (hh 3 _ rfl) rfl (by simp [maxLen]),by simp [SpansOK],by simp,by simp [blockIf]⟩
 ·exact ⟨_,[(99,99)],1,hc _ rfl,SpansIn.of_block (set:=[(99,99)]) (hh 4 _ rfl) rfl (by simp [maxLen]),by simp [SpansOK],by simp,by simp [blockIf]⟩
 ·exact ⟨_,[(97,99)],1,hc _ rfl,SpansIn.of_block (set:=[(97,99)]) (hh 5 _ rfl) rfl (by simp [maxLen]),by simp [SpansOK],by simp,by simp [blockIf]⟩
 ·exact ⟨_,[(0,96),(98,255)],2,hc _ rfl,SpansIn.of_block (set:=[(0,96),(98,255)]) (hh 6 _ rfl) rfl (by simp [maxLen]),by simp [SpansOK],by simp,by simp [blockIf]⟩
 ·exact ⟨_,[(10,10),(97,97)],2,hc _ rfl,SpansIn.of_block (set:=[(10,10),(97,97)]) (hh 7 _ rfl) rfl (by simp [maxLen]),by simp [SpansOK],by simp,by simp [blockIf]⟩
 ·exact ⟨_,[],0,hc _ rfl,SpansIn.of_block (set:=[]) (hh 8 _ rfl) rfl (by simp [maxLen]),by simp [SpansOK],by simp,by simp [blockIf]⟩
theorem leaf_wf {op:Int} {set:List (Int × Int)} {n:Int} (h:NodeOK op set 0 0 0 0 n false):Tree.WF (.node op set [] 0 0 0 n false):=.mk h (by simp)
theorem letter_ok {set:List (Int × Int)} (h:SpansOK set) (hl:set.length≤64):NodeOK 1 set 0 0 0 0 0 false:=by
 constructor <;> first | omega | (intro h;omega) | (intro _;exact ⟨h,hl⟩) | simp
theorem set_any {w:World} {g:Nat} {la lc zs uses lf} (h:MakerAt w g la lc zs uses lf):
  Calls Tryz.prog 106 #[.pointer (some ⟨g,0,none⟩)] w (GenPost w g la lc zs uses (Lone lf) 3):=by
 have HM:=gi h;clear h;go_enter Tryz.func106,Tryz.ntmps106
 go_wp2_with fail
 obtain ⟨W,hWe⟩:∃ W:World,W=((((((((((w.alloc (.cells #[H J 0,M none 0 0,M none 0 0,H J 0,H J 0,H J 0,H J 0,F false] 26)).alloc (.cells #[H J 97,H J 97] 86)).alloc (.cells #[H J 98,H J 98] 86)).alloc (.cells #[H J 97,H J 98] 86)).alloc (.cells #[H J 99,H J 99] 86)).alloc (.cells #[H J 97,H J 99] 86)).alloc
  (.cells #[H J 0,H J 96,H J 98,H J 255] 86)).alloc (.cells #[H J 10,H J 10,H J 97,H J 97] 86)).alloc (.cells #[] 86)).alloc (setOuter w.heap.size)):=⟨_,rfl⟩
 have hl:W.heap.toList=w.heap.toList ++ (setRow ++ [setOuter w.heap.size]):=by
  have e:∀ (w:World) (o:Obj),(w.alloc o).heap.toList=w.heap.toList ++ [o]:=fun w o=> by show (w.heap.push o).toList=_;simp
  rw [hWe,e,e,e,e,e,e,e,e,e,e];simp [setRow]
 have hkW:Keeps [] w W:=by rw [hWe];exact (Keeps.a4 _ _ _ _ _).trans ((Keeps.a4 _ _ _ _ _).trans (Keeps.a2 _ _ _))
 have hz:W.heap[w.heap.size]? =some (.cells #[H J 0,M none 0 0,M none 0 0,H J 0,H J 0,H J 0,H J 0,F false] 26 (0,0)):=by have:=allocs_get hl 0;rw [Nat.add_zero] at this;rw [this];rfl
 have HL:=gi hl;have HKW:=gi hkW;have HZ:=gi hz;have HWE:=gi hWe;clear hl hkW hz;simp only [setOuter] at hWe;simp only [Nat.add_assoc,Nat.reduceAdd];rw [←hWe];obtain ⟨B,hBe⟩:∃ B,B=w.heap.size:=⟨_,rfl⟩;rw [←hBe];have HBE:=gi hBe;clear hWe hBe;refine Calls.mono (next_any (HM.o.keep HKW.o) 15 (by omega)) ?_;rintro e w2 ⟨k,hk0,hk1,rfl,hm,hk,_⟩;obtain ⟨q,hq⟩:∃ q:Nat,k / 2=(q:Int):=⟨(k / 2).toNat,by omega⟩;have hq8:q < 8:=by omega
 obtain ⟨sa,set,sc,hc,hin,hok,hlen,hfr⟩:=set_case HM.o.lt HL.o hk q hq8;rw [←HBE.o] at hc hfr;have hz2:=hk.heap HZ.o (by have:=HM.o.lt;simp;omega);rw [←HBE.o] at hz2;obtain ⟨z0,z1,z2,z3,z4,z5,z6,z7,zf⟩:=zero_cells hz2;have HZ2:=gi hz2;have HM2:=gi hm;have HK2:=gi ((HKW.o.mono (S':=[g]) (by simp)).trans hk);have HIN:=gi hin;have HOK:=gi hok;have HLN:=gi hlen;have HFR:=gi hfr;have hqI:(q:Int) < 8:=by omega
 have hq0:(0:Int)≤(q:Int):=by omega
 clear hm hk hin hok hlen hfr hz2;go_wp2_with fail
 obtain ⟨hR,hok,hm,hk,hfr⟩:=gen_store (op:=1) (set:=set) (sa:=sa) (sc:=sc) (ka:=none) (kc:=0) (kids:=[]) (mn:=0) (mx:=0) (mode:=0) (n:=0) (neg:=false) HM.o HM2.o HK2.o (Nat.le_of_eq HBE.o.symm) HZ2.o (.of HIN.o (KidsIn.nil _)) (fun b hb=> by
  have hb:b∈blockIf set.length sa:=by simpa [MRe.blocks,MRe.blocksL,blockIf] using hb
  have:=HFR.o b hb
  have:=HBE.o
  omega)
 refine rc hR ?_;exact ⟨_,_,rfl,hok,hm,hk,hfr,leaf_wf (letter_ok HOK.o (by have:=HLN.o;omega)),by have:=HLN.o;show 1 + set.length + 0≤3;omega,rfl,rfl,rfl⟩
def TreeGen (d:Nat) (bd:Nat):Prop:=∀ (w:World) (g:Nat) (la:Option Addr) (lc:Nat) (zs:List Int) (uses lf:Int),MakerAt w g la lc zs uses lf→-1000≤lf→lf≤1000→
 Calls Tryz.prog 73 #[.pointer (some ⟨g,0,none⟩),H J (d:Int)] w (GenPost w g la lc zs uses (Left lf d) bd)
def KidsPost (w:World) (g:Nat) (la:Option Addr) (lc:Nat) (zs:List Int) (uses lf:Int) (d:Nat) (bd:Nat) (e:Ending) (w':World):Prop:=
 ∃ (a:Option Nat) (c:Nat) (ks:List MRe) (lf':Int),e=.returned (sv a ks.length c)∧2≤ks.length∧ks.length≤3∧KidsIn w' (a.map fun x=> ⟨x,0,none⟩) c ks∧MakerAt w' g la lc zs uses lf'∧Keeps [g] w w'∧
  (∀ x,a=some x→w.heap.size≤x)∧(∀ x∈ks,x.tree.WF∧x.tree.bulk≤bd∧∀ b∈x.blocks,w.heap.size≤b)∧(sizeTs (MRe.trees ks):Int)≤lf - lf'∧-(2 * (d:Int))≤lf'∧depthTs (MRe.trees ks)≤d + 1
theorem MakerAt.keepF {w V V':World} {g:Nat} {S:List Nat} {la lc zs uses lf0 lf} (h0:MakerAt w g la lc zs uses lf0) (h:MakerAt V g la lc zs uses lf) (hB:∀ x∈S,w.heap.size≤x) (k:Keeps S V V'):MakerAt V' g la lc zs uses lf:=by
 obtain ⟨a,c,h1,h2,hr⟩:=h.row;have hg:=h0.lt;exact ⟨h.ints.keepN k (fun hp a ha hm=> by have:=(h0.sep hp a ha).1;have:=hB _ hm;omega),h.len,h.i64,fun hp a ha=> ⟨Nat.lt_of_lt_of_le (h.sep hp a ha).1 k.size,(h.sep hp a ha).2⟩,a,c,h1,h2,k.heap hr (fun hm=> by have:=hB _ hm;omega)⟩
theorem sizeTs_snoc (l:List MRe) (m:MRe):sizeTs (MRe.trees (l ++ [m]))=sizeTs (MRe.trees l) + sizeT m.tree:=by
 induction l with
 | nil=> simp [MRe.trees,sizeTs]
 | cons x r ih=> simp only [List.cons_append,MRe.trees,sizeTs,ih];omega
theorem depthTs_snoc (l:List MRe) (m:MRe):depthTs (MRe.trees (l ++ [m]))=max (depthTs (MRe.trees l)) (depthT m.tree):=by
 induction l with
 | nil=> simp [MRe.trees,depthTs]
 | cons x r ih=> simp only [List.cons_append,MRe.trees,depthTs,ih];omega
theorem lk_bound {lf lk:Int} {d k s:Nat} (h1:3≤lf) (h2:lf≤1000) (hs:(s:Int)≤lf - lk) (hk:if k=0 then lk=lf else 3 - 2 * (d:Int) - (k:Int)≤lk) (hd:d≤100) (h3:k≤2):-1000≤lk∧lk≤1000:=by
 split at hk <;> omega
theorem lk_step {lf lk l5:Int} {d k:Nat} {ks:List MRe} {m:MRe} (h1:3≤lf) (hs:(sizeTs (MRe.trees ks):Int)≤lf - lk) (hk:if k=0 then lk=lf else 3 - 2 * (d:Int) - (k:Int)≤lk) (hdp:depthTs (MRe.trees ks)≤d + 1) (hp:Left lk d l5 m.tree):
  (sizeTs (MRe.trees (ks ++ [m])):Int)≤lf - l5∧(if k + 1=0 then l5=lf else 3 - 2 * (d:Int) - ((k + 1:Nat):Int)≤l5)∧depthTs (MRe.trees (ks ++ [m]))≤d + 1:=by
 obtain ⟨p1,p2,p3⟩:=hp;rw [sizeTs_snoc,depthTs_snoc,if_neg (by omega)];refine ⟨by omega,?_,by omega⟩
 split at hk <;> omega
theorem kidsgen_any {d bd:Nat} (TH:TreeGen d bd) (hd:d≤100) {w:World} {g:Nat} {la lc zs uses lf} (h:MakerAt w g la lc zs uses lf) (hlf:3≤lf) (hlf2:lf≤1000):
  Calls Tryz.prog 107 #[.pointer (some ⟨g,0,none⟩),H J ((d:Int) + 1)] w (KidsPost w g la lc zs uses lf d bd):=by
 obtain ⟨i0,hi,hz0,hz1,hz2⟩:=info_parts infoRe;have Hi:=gi hi;have Hz0:=gi hz0;have Hz1:=gi hz1;have Hz2:=gi hz2;have HM:=gi h;have HTH:=gi TH;have HGL:=gi h.lt;have HLF:=gi (And.intro hlf hlf2);clear hi hz0 hz1 hz2 h TH hlf hlf2;go_enter Tryz.func107,Tryz.ntmps107
 go_wp2
 go_loopw [5,6] (fun v i wr=> ∃ (k:Nat) (a:Option Nat) (c:Nat) (ks:List MRe) (lk:Int),k≤3∧i=H J k∧v=sv a k c∧ks.length=k∧SliceAt wr 26 8 a k c (flatK ks)∧
   (∀ x∈ks,x.OK wr∧(∀ b∈x.blocks,w.heap.size≤b∧a≠some b)∧x.tree.WF∧x.tree.bulk≤bd)∧(∀ x,a=some x→w.heap.size≤x)∧MakerAt wr g la lc zs uses lk∧Keeps [g] w wr∧(sizeTs (MRe.trees ks):Int)≤lf - lk∧(if k=0 then lk=lf else 3 - 2 * (d:Int) - (k:Int)≤lk)∧depthTs (MRe.trees ks)≤d + 1) (fun _ i _=> 3 - (intOf i).toNat)
 case atStart=> exact ⟨0,none,0,[],lf,by omega,rfl,rfl,rfl,SliceAt.nil _ _ _,by simp,by simp,HM.o,Keeps.refl _ _,by simp [MRe.trees,sizeTs],by simp,by simp [MRe.trees,depthTs]⟩
 case round=>
  obtain ⟨k,a,c,ks,lk,hk3,rfl,rfl,hkl,hsl,hks,hag,hm,hkp,hsz,hlk,hdp⟩:=hrel;have HSZ:=gi hsz;have HLK:=gi hlk;have HDP:=gi hdp;have HSL:=gi hsl;have HKS:=gi hks;have HAG:=gi hag;have HMR:=gi hm;have HKP:=gi hkp;have HKL:=gi hkl;obtain ⟨wo,hwo⟩:∃ wo,wo=wr:=⟨_,rfl⟩;clear hsl hks hag hm hkp hkl hsz hlk hdp;go_wp2_with fail
  refine Calls.mono (next_any HMR.o 2 (by omega)) ?_;rintro e w2 ⟨x,hx0,hx1,rfl,hm2,hk2,_⟩;have HM2:=gi hm2;have HK2:=gi hk2;clear hm2 hk2
  by_cases hlt:(k:Int) < 2 + x
  ·go_wp2_with fail
   have hlkb:=lk_bound (d:=d) HLF.o.1 HLF.o.2 HSZ.o HLK.o hd (by omega);refine Calls.mono (HTH.o w2 g la lc zs uses lk HM2.o hlkb.1 hlkb.2) ?_;rintro e w5 ⟨m',lf5,rfl,ho5,hm5,hk5,hf5,hwf,hbd,hP5⟩;have HP5:=gi hP5;have HO5:=gi ho5;have HM5:=gi hm5;have HK5:=gi (show Keeps [g] wr w5 from HK2.o.trans hk5);have HF5:=gi (show ∀ b∈m'.blocks,wr.heap.size≤b from fun b hb=> Nat.le_trans HK2.o.size (hf5 b hb));have HWF:=gi hwf;have HBD:=gi hbd;have hone:=flatK_one [m'];rw [show flatK [m']=m'.row by simp [flatK]] at hone;obtain ⟨m0,hm0⟩:∃ m0,m0=m':=⟨_,rfl⟩;rw [←hm0] at HO5 HF5 HWF HBD HP5;have HM0:=gi hm0;obtain ⟨op2,sa2,sc2,set2,ka2,kc2,kids2,mn2,mx2,mode2,n2,neg2⟩:=m';simp only [MRe.row] at hone;simp only [MRe.val];have HONE:=gi hone;clear ho5 hm5 hk5 hf5 hwf hbd hm0 hone hP5 hlkb;have hga:g ∉ a.toList:=fun h=> by
    have:=HAG.o g (by simpa using h)
    have:=HGL.o
    omega
   have HSL5:=gi (HSL.o.keep HK5.o (by
    intro x hx h;simp at h;subst h
    have:=HAG.o _ hx
    have:=HGL.o
    omega))
   go_wp2_with (at_builtin;refine wpList_append_sl rfl (.tmp 14) (.tmp 19) 24 rfl 26 i0 _ 8 96 Tryz.underlying24 Hi.o Hz0.o Hz1.o Hz2.o rfl (by decide) a k c _ rfl (HSL5.o.alloc _) ⟨w5.heap.size,0,none⟩ 1 1 [H J op2,M sa2 set2.length sc2,M ka2 kids2.length kc2,H J mn2,H J mx2,H J mode2,H J n2,F neg2] rfl rfl (news_row' _ _ _ _ rfl) HONE.o (by decide) (by omega) (by omega) ?hk)
   case hk=>
    intro g6 c6 w6 hsl6 hk6 hg6;have kA:Keeps [g] wr (w5.alloc (.cells #[H J op2,M sa2 set2.length sc2,M ka2 kids2.length kc2,H J mn2,H J mx2,H J mode2,H J n2,F neg2] 26)):=HK5.o.alloc _;have hal:∀ y,a=some y→y < wr.heap.size:=fun y hy=> by subst hy;exact HSL.o.lt
    have hag:=HAG.o;have hgl:=HGL.o;have hs5:=HK5.o.size;have hsw:=HKP.o.size;have hg7:a=some g6∨w5.heap.size + 1≤g6:=by
     rcases hg6 with h | h
     ·exact .inl h
     ·right;simpa using h
    have hel:∀ x∈ks ++ [m0],x.OK w6∧(∀ b∈x.blocks,w.heap.size≤b∧some g6≠some b)∧x.tree.WF∧x.tree.bulk≤bd:=by
     intro x hx
     rcases List.mem_append.1 hx with hx | hx
     ·obtain ⟨h1,h2,h3,h4⟩:=HKS.o x hx;refine ⟨(h1.keepS kA fun b hb h=> ?_).keepS hk6 fun b hb h=> (h2 b hb).2 (by simpa using h),fun b hb=> ⟨(h2 b hb).1,fun h=> ?_⟩,h3,h4⟩
      ·have:=(h2 b hb).1
       simp at h;omega
      ·have h5:=h1.block_lt b hb
       rcases hg7 with h7 | h7
       ·exact (h2 b hb).2 (by rw [h7,h])
       ·cases h;omega
     ·simp at hx;subst hx;refine ⟨(HO5.o.keep (Keeps.a1 w5 _)).keepS hk6 fun b hb h=> ?_,fun b hb=> ?_,HWF.o,HBD.o⟩
      ·have h3:=HF5.o b hb;have h4:=hal b (by simpa using h);omega
      ·have h3:=HF5.o b hb;have h4:=HO5.o.block_lt b hb;refine ⟨by omega,fun h=> ?_⟩
       cases h
       rcases hg7 with h7 | h7
       ·have:=hal _ h7;omega
       ·omega
    have hag6:∀ z,some g6=some z→w.heap.size≤z:=by
     intro z hz
     cases hz
     rcases hg7 with h7 | h7
     ·exact hag _ h7
     ·omega
    have hm6:=HM.o.keepF (HM5.o.keep (Keeps.a1 w5 (.cells #[H J op2,M sa2 set2.length sc2,M ka2 kids2.length kc2,H J mn2,H J mx2,H J mode2,H J n2,F neg2] 26))) (fun x hx=> hag x (by simpa using hx)) hk6;have hk6':=(HKP.o.trans kA).after hk6 (fun x hx=> .inr (hag x (by simpa using hx)));have hfl:flatK (ks ++ [m0])=flatK ks ++ [H J op2,M sa2 set2.length sc2,M ka2 kids2.length kc2,H J mn2,H J mx2,H J mode2,H J n2,F neg2]:=by rw [flatK_append,HM0.o];simp [flatK,MRe.row]
    rw [←hfl] at hsl6;have HSL6:=gi hsl6;have HEL:=gi hel;have HAG6:=gi hag6;have HM6:=gi hm6;have HK6:=gi hk6';clear kA hal hag hgl hs5 hsw hg7 hel hag6 hm6 hk6 hk6' hfl hsl6 hg6;have hk2:k≤2:=by omega
    go_wp2;go_roundw
    case rel=>
     have hst:=lk_step HLF.o.1 HSZ.o HLK.o HDP.o HP5.o;exact ⟨k + 1,some g6,c6,ks ++ [m0],lf5,by omega,by go_num,rfl,by simp [HKL.o],HSL6.o,HEL.o,HAG6.o,HM6.o,HK6.o,hst.1,hst.2.1,hst.2.2⟩
    case measure=> simp [intOf];omega
  ·have hk2:2≤k:=by omega
   go_wp2;go_ret;have hkl:=HKL.o;subst hkl;have hag:=HAG.o;have hgl:=HGL.o;refine ⟨a,c,ks,lk,rfl,hk2,hk3,⟨NodesIn.of_sl (HSL.o.keep HK2.o (fun x hx h=> ?_)),fun x hx=> (HKS.o x hx).1.keepS HK2.o fun b hb h=> ?_⟩,HM2.o,HKP.o.trans HK2.o,hag,fun x hx=> ⟨(HKS.o x hx).2.2.1,(HKS.o x hx).2.2.2,fun b hb=> ((HKS.o x hx).2.1 b hb).1⟩,HSZ.o,(by have h:=HLK.o;split at h <;> omega),HDP.o⟩
   ·simp at h;subst h
    have:=hag _ hx
    omega
   ·have:=((HKS.o x hx).2.1 b hb).1
    simp at h;omega
theorem lone_gen {W:World} {T:Nat} {s:MRe} (h1:s.OK W) (cs:Array Value) (hcs:cs.toList=s.row):KidsIn (W.alloc (.cells cs T)) (some ⟨W.heap.size,0,none⟩) 1 [s]:=
 ⟨NodesIn.of_block (kids:=[s]) (heap_alloc_new W _) (by rw [hcs];simp [flatK]) (by simp [maxLen]),fun x hx=> by
  simp only [List.mem_cons,List.not_mem_nil,or_false] at hx;subst hx;exact h1.keep (Keeps.a1 _ _)⟩
theorem left_lone {lf lf5:Int} {d:Nat} {t s:Tree} (hp:Left lf d lf5 t) (h:sizeT s=1∧depthT s=1):Left lf d lf5 s:=by
 obtain ⟨p1,p2,p3⟩:=hp
 have:1≤sizeT t:=by cases t;simp only [sizeT];omega
 exact ⟨by omega,p2,by omega⟩
theorem one_inner {lf l5:Int} {d:Nat} {m:MRe} {op:Int} {sa:Option Addr} {sc:Nat} {set:List (Int × Int)} {ka:Option Addr} {kc:Nat} {mn mx mode n:Int} {neg:Bool} (h:3≤lf) (hp:Left lf d l5 m.tree):Inner lf d l5 (MRe.tree (.node op sa sc set ka kc [m] mn mx mode n neg)):=by
 obtain ⟨p1,p2,p3⟩:=hp;refine ⟨?_,by omega,?_⟩
 ·simp only [MRe.tree,MRe.trees,sizeT,sizeTs];omega
 ·simp only [MRe.tree,MRe.trees,depthT,depthTs];omega
theorem capture_any {d bd:Nat} (TH:TreeGen d bd) (hd:d≤100) {w:World} {g:Nat} {la lc zs uses lf} (h:MakerAt w g la lc zs uses lf) (hlf:3≤lf) (hlf2:lf≤1000):
  Calls Tryz.prog 109 #[.pointer (some ⟨g,0,none⟩),H J ((d:Int) + 1)] w (GenPost w g la lc zs uses (Inner lf d) (1 + bd)):=by
 have HM:=gi h;have HLF:=gi (And.intro hlf hlf2);have HTH:=gi TH;have HGL:=gi h.lt;clear TH hlf hlf2;obtain ⟨B,hBe⟩:∃ B,B=w.heap.size:=⟨_,rfl⟩;obtain ⟨X,hXe⟩:∃ X:World,X=w.alloc (.cells #[H J 0,M none 0 0,M none 0 0,H J 0,H J 0,H J 0,H J 0,F false] 26):=⟨_,rfl⟩;have hkX:Keeps [] w X:=by rw [hXe];exact Keeps.a1 _ _
 have hz:X.heap[B]? =some (.cells #[H J 0,M none 0 0,M none 0 0,H J 0,H J 0,H J 0,H J 0,F false] 26 (0,0)):=by rw [hXe,hBe];exact heap_alloc_new w _
 have hmX:=h.keep hkX;obtain ⟨at0,cp,h0,h1,hr⟩:=hmX.row;obtain ⟨c0,c1,c2,c3,c4,cf⟩:=row5_cells hr;have HBE:=gi hBe;have HXE:=gi hXe;have HKX:=gi hkX;have HZ:=gi hz;have HMX:=gi hmX;clear h hBe hXe hkX hz hmX hr;go_enter Tryz.func109,Tryz.ntmps109
 go_upto_region 1 with fail
 rw [←HXE.o,←HBE.o];go_upto_region 2 with fail
 go_cut [24] (fun s24 wx=> ∃ b:Bool,s24=F b∧(b=false→cp≤3)∧(b=true→1≤cp)∧MakerAt wx g la lc zs uses lf∧Keeps [g] X wx∧wx.cell? ⟨g,4,none⟩=some (H J cp))
 case first=>
  obtain rfl | rfl | rfl | rfl | rfl:cp=0∨cp=1∨cp=2∨cp=3∨cp=4:=by omega
  ·go_wp2;go_meet;exact ⟨false,rfl,by omega,(by intro h;cases h),HMX.o,Keeps.refl _ _,c4⟩
  ·go_wp2_with fail
   refine Calls.mono (next_any HMX.o 9 (by omega)) ?_;rintro e w2 ⟨x,hx0,hx1,rfl,hm2,hk2,hc4⟩;have e4:=hc4 _ c4;have HM2:=gi hm2;have HK2:=gi hk2;clear hm2 hk2 hc4 c0 c1 c2 c3 c4 cf;obtain ⟨q,hq⟩:∃ q:Bool,(x==0)=q:=⟨_,rfl⟩;go_wp2;go_meet;exact ⟨q,rfl,by omega,by omega,HM2.o,HK2.o,e4⟩
  ·go_wp2_with fail
   refine Calls.mono (next_any HMX.o 9 (by omega)) ?_;rintro e w2 ⟨x,hx0,hx1,rfl,hm2,hk2,hc4⟩;have e4:=hc4 _ c4;have HM2:=gi hm2;have HK2:=gi hk2;clear hm2 hk2 hc4 c0 c1 c2 c3 c4 cf;obtain ⟨q,hq⟩:∃ q:Bool,(x==0)=q:=⟨_,rfl⟩;go_wp2;go_meet;exact ⟨q,rfl,by omega,by omega,HM2.o,HK2.o,e4⟩
  ·go_wp2_with fail
   refine Calls.mono (next_any HMX.o 9 (by omega)) ?_;rintro e w2 ⟨x,hx0,hx1,rfl,hm2,hk2,hc4⟩;have e4:=hc4 _ c4;have HM2:=gi hm2;have HK2:=gi hk2;clear hm2 hk2 hc4 c0 c1 c2 c3 c4 cf;obtain ⟨q,hq⟩:∃ q:Bool,(x==0)=q:=⟨_,rfl⟩;go_wp2;go_meet;exact ⟨q,rfl,by omega,by omega,HM2.o,HK2.o,e4⟩
  ·go_wp2;go_meet;exact ⟨true,rfl,(by intro h;cases h),by omega,HMX.o,Keeps.refl _ _,c4⟩
 case rest=>
 obtain ⟨b,rfl,hbf,hbt,hm,hk,hc4⟩:=hcut;have HB1:=gi hbf;have HB2:=gi hbt;have HM7:=gi hm;have HK7:=gi hk;clear c0 c1 c2 c3 c4 cf hm hk hbf hbt
 go_upto_if 24 with fail
 go_cut [5] (fun s5 wx=> ∃ n:Int,s5=H J n∧1≤n∧n≤4∧MakerAt wx g la lc zs uses lf∧Keeps [g] X wx)
 case first=>
  cases b with
  | false=>
   have h3:=HB1.o rfl;go_wp2;go_meet;exact ⟨cp + 1,rfl,by omega,by omega,HM7.o,HK7.o⟩
  | true=>
   have h3:=HB2.o rfl;obtain rfl | hlt:cp=1∨1 < cp:=by omega
   all_goals
    go_wp2_with fail
    refine Calls.mono (next_any HM7.o _ (by omega)) ?_;rintro e w3 ⟨y,hy0,hy1,rfl,hm3,hk3,_⟩;have HM3:=gi hm3;have HK3:=gi (HK7.o.trans hk3);clear hm3 hk3;go_wp2;go_meet;exact ⟨1 + y,rfl,by omega,by omega,HM3.o,HK3.o⟩
 case rest=>
  obtain ⟨n,rfl,hn1,hn4,hm,hk⟩:=hcut;clear hc4;have HM1:=gi hm;have HK1:=gi hk;clear hm hk h0 h1;go_upto_region 4 with fail
  go_cut [39] (fun s39 wx=> MakerAt wx g la lc zs uses lf∧Keeps [g] X wx)
  case first=>
   obtain ⟨at1,cp1,h01,h11,hr1⟩:=HM1.o.row;obtain ⟨c0,c1,c2,c3,c4,cf⟩:=row5_cells hr1;have HR1:=gi hr1;clear hr1;obtain ⟨mm,hmm⟩:∃ mm,mm=max cp1 n:=⟨_,rfl⟩;have HMM:=gi (show 0≤mm∧mm≤4 by omega);have hput:∀ V,V=wc.setCell ⟨g,4,none⟩ (H J mm)→MakerAt V g la lc zs uses lf∧Keeps [g] X V:=fun V hVe=> by
    have hkV:Keeps [g] wc V:=by rw [hVe];exact (Keeps.refl [g] wc).setCell (p:=⟨g,4,none⟩) (.inl (by simp)) _
    have hrV:V.heap[g]? =some (.cells #[M la zs.length lc,H J at1,H J uses,H J lf,H J mm] 99 (0,0)):=by rw [hVe];exact heap_setCell_same _ g 4 _ _ _ HR1.o
    exact ⟨HM1.o.put hkV HMM.o.1 HMM.o.2 hrV,HK1.o.trans hkV⟩
   have HP:=gi hput;clear hput
   by_cases hcn:cp1 < n
   ·obtain rfl:mm=n:=by omega
    clear hmm;go_wp2;go_meet
    first | exact HP.o _ rfl | exact HP.o _ (by rw [Int.max_eq_right (by omega)])
   ·obtain rfl:mm=cp1:=by omega
    clear hmm;go_wp2;go_meet
    first | exact HP.o _ rfl | exact HP.o _ (by rw [Int.max_eq_left (by omega)])
  case rest=>
  obtain ⟨hmv,hkv⟩:=hcut;obtain ⟨V,hVe⟩:∃ V,V=wc:=⟨_,rfl⟩;have HMV:=gi hmv;have HKV:=gi hkv;clear hmv hkv;go_wp2_with fail
  refine Calls.mono (HTH.o _ g la lc zs uses lf HMV.o (by have:=HLF.o;omega) HLF.o.2) ?_;rintro e w5 ⟨m',lf5,rfl,ho5,hm5,hk5,hf5,hwf,hbd,hP5⟩;have HP5:=gi hP5;have HO5:=gi ho5;have HM5:=gi hm5;have HK5:=gi (show Keeps [g] X w5 from HKV.o.trans hk5);have HF5:=gi (show ∀ b∈m'.blocks,X.heap.size≤b from fun b hb=> Nat.le_trans HKV.o.size (hf5 b hb));have HWF:=gi hwf;have HBD:=gi hbd;obtain ⟨m0,hm0⟩:∃ m0,m0=m':=⟨_,rfl⟩;rw [←hm0] at HO5 HF5 HWF HBD HP5;have HM0:=gi hm0;obtain ⟨op2,sa2,sc2,set2,ka2,kc2,kids2,mn2,mx2,mode2,n2,neg2⟩:=m';simp only [MRe.val];clear ho5 hm5 hk5 hf5 hwf hbd hm0 hP5;have hgl:=HGL.o;have hXS:B + 1≤X.heap.size:=by rw [HXE.o,HBE.o];simp
  have hne:B≠g:=by rw [HBE.o];omega
  have hz2:=(HK5.o.alloc (.cells #[H J op2,M sa2 set2.length sc2,M ka2 kids2.length kc2,H J mn2,H J mx2,H J mode2,H J n2,F neg2] 26)).heap HZ.o (by simp;exact hne);obtain ⟨z0,z1,z2,z3,z4,z5,z6,z7,zf⟩:=zero_cells hz2;obtain ⟨hR,hok,hm,hk,hfr⟩:=gen_store (op:=5) (set:=[]) (sa:=none) (sc:=0) (ka:=some ⟨w5.heap.size,0,none⟩) (kc:=1) (kids:=[m0]) (mn:=0) (mx:=0) (mode:=0) (n:=n) (neg:=false) HM.o (HM5.o.keep (Keeps.a1 w5 (.cells #[H J op2,M sa2 set2.length sc2,M ka2 kids2.length kc2,H J mn2,H J mx2,H J mode2,H J n2,F neg2] 26))) (((HKX.o.mono (S':=[g]) (by simp)).trans HK5.o).alloc _) (Nat.le_of_eq HBE.o.symm) hz2 (.of (SpansIn.nil _) (lone_gen HO5.o _ (by rw [HM0.o];rfl))) (fun b hb=> by
   have hs5:=HK5.o.size;have hbe:=HBE.o;simp only [MRe.blocks,MRe.blocksL,List.mem_append,List.not_mem_nil,or_false] at hb
   rcases hb with h | h | h
   ·simp [blockIf] at h
   ·simp [blockIf] at h;subst h;omega
   ·have:=HF5.o b h;omega)
  have H1:=gi hR;have H2:=gi hok;have H3:=gi hm;have H4:=gi hk;have H5:=gi hfr;clear hR hok hm hk hfr hz2 hgl hXS hne;go_wp2;refine rc H1.o ?_;exact ⟨_,lf5,rfl,H2.o,H3.o,H4.o,H5.o,.mk (by
   show NodeOK 5 [] 1 0 0 0 n false
   constructor <;> first | omega | (intro h;omega) | simp) (by intro k hk;simp only [MRe.trees,List.mem_cons,List.not_mem_nil,or_false] at hk;subst hk;exact HWF.o),by have:=HBD.o;show 1 + 0 + (m0.tree.bulk + 0)≤1 + bd;omega,one_inner HLF.o.1 HP5.o⟩
end Go.Proofs.YtjnlkjlbejelgaaGreat
