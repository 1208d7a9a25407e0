/- Part 21 of the proof. No condition: every lemma says its own. -/
import Derived.Test.YtjnlkjlbejelgaaGreatLar
import Derived.Test.YtjnlkjlbejelgaaGreatLac
namespace Go.Proofs.YtjnlkjlbejelgaaGreat
open Go.RowKit
open Go.Value renaming int→H,slice→M,bool→F
open Go.IntKind renaming i64→J
set_option maxRecDepth 100000
set_option maxHeartbeats 16000000
def nodeAt:MRe→Nat→Nat→List Int→Option (MRe × Nat × Nat)
 | m,b,o,[]=> some (m,b,o)
 | .node _ _ _ _ ka _ kids _ _ _ _ _,_,_,x::r=> if 0≤x∧x < kids.length then
   match ka with
   | some a=> nodeAt (kids.getD x.toNat .nil) a.block (a.off + x.toNat * 8) r
   | none=> none
  else none
def placeOf (o:Option (MRe × Nat × Nat)):Value:=.pointer (o.map fun x=> ⟨x.2.1,x.2.2,none⟩)
theorem nodeAt_cons {op sa sc set ka kc kids mn mx mode n neg} {b o:Nat} {x:Int} {r:List Int} {bb off:Nat} (hk:ka=some ⟨bb,off,none⟩) (i:Nat) (hx:x=i) (hi:i < kids.length):
  nodeAt (.node op sa sc set ka kc kids mn mx mode n neg) b o (x::r)=nodeAt kids[i] bb (off + i * 8) r:=by
 subst hk;subst hx;rw [nodeAt,if_pos (by omega)];simp only [Int.toNat_natCast,List.getD_eq_getElem?_getD,List.getElem?_eq_getElem hi,Option.getD_some]
theorem nodeAt_out {op sa sc set ka kc kids mn mx mode n neg} {b o:Nat} {x:Int} {r:List Int} (hx:¬ (0≤x∧x < kids.length)):
  nodeAt (.node op sa sc set ka kc kids mn mx mode n neg) b o (x::r)=none:=by unfold nodeAt;exact if_neg hx
theorem nodeAt_atT:∀ (path:List Int) {m:MRe} {b o:Nat} {w:World},m.OK w→(nodeAt m b o path).map (fun x=> x.1.tree)=atT m.tree path:=by
 intro path
 induction path with
 | nil=> intro m b o w _;rfl
 | cons x r ih=>
  intro m b o w k1;obtain ⟨op,sa,sc,set,ka,kc,kids,mn,mx,mode,n,neg⟩:=m
  show _=if 0≤x∧x < (MRe.trees kids).length then atT ((MRe.trees kids).getD x.toNat .nil) r else none
  rw [MRe.trees_length]
  by_cases hx:0≤x∧x < kids.length
  ·obtain ⟨i,rfl⟩:∃ i:Nat,x=(i:Int):=⟨x.toNat,by omega⟩;have hi:i < kids.length:=by omega
   obtain ⟨b',off,rfl,_,_⟩:=k1.kids.nodes.kid (by omega);rw [nodeAt_cons rfl i rfl hi,ih (k1.kid (List.getElem_mem hi)),if_pos hx,Int.toNat_natCast,List.getD_eq_getElem?_getD,List.getElem?_eq_getElem (by rw [MRe.trees_length];exact hi),Option.getD_some,trees_getElem]
  ·rw [nodeAt_out hx,if_neg hx];rfl
structure FindAt (w:World) (m:MRe) (b o:Nat):Prop where
 at8:At8 w b o m
 ok:m.OK w
def Found (w:World):Option (MRe × Nat × Nat)→Prop
 | none=> True
 | some x=> FindAt w x.1 x.2.1 x.2.2
theorem find_any (m:MRe) (b o:Nat) (path:List Int) (pa:Option Addr) (pc:Nat) (w:World) (h8:At8 w b o m) (k1:m.OK w) (hin:IntsIn w pa path) (hl:path.length≤1000000):
  Calls Tryz.prog 64 #[.pointer (some ⟨b,o,none⟩),M pa path.length pc] w fun e w'=> e=.returned (placeOf (nodeAt m b o path))∧Keeps [] w w'∧Found w' (nodeAt m b o path):=by
 obtain ⟨R,hR⟩:∃ R,R=nodeAt m b o path:=⟨_,rfl⟩;rw [←hR];have HR:=gi hR;have H8:=gi h8;have HO:=gi k1;have HIN:=gi hin;clear hR h8 k1 hin;go_enter Tryz.func64,Tryz.ntmps64
 go_wp2
 go_loopw [0,6,9] (fun p _ i wr=> ∃ (k:Nat) (mk:MRe) (bb oo:Nat),k≤path.length∧i=H J k∧p=.pointer (some ⟨bb,oo,none⟩)∧At8 w bb oo mk∧mk.OK w∧Keeps [] w wr∧R=nodeAt mk bb oo (path.drop k)) (fun _ _ i _=> path.length - (intOf i).toNat)
 case atStart=> exact ⟨0,m,b,o,Nat.zero_le _,rfl,rfl,H8.o,HO.o,Keeps.refl _ _,by rw [List.drop_zero];exact HR.o⟩
 case round=>
  obtain ⟨k,mk,bb,oo,hkk,rfl,rfl,h8,hok,hkp,hrr⟩:=hrel;have KP:=gi hkp;have HOK:=gi hok;have H8K:=gi h8
  by_cases hlt:k < path.length
  ·obtain ⟨pb,po,rfl,hpx⟩:=HIN.o (by omega);have p0:=hkp.cell (hpx k hlt) (by simp);rw [List.drop_eq_getElem_cons hlt] at hrr;rw [show path.getD k 0=path[k] by rw [List.getD_eq_getElem?_getD,List.getElem?_eq_getElem hlt,Option.getD_some]] at p0
   generalize path[k]=x at *
   obtain ⟨op,sa,sc,set,ka,kc,kids,mn,mx,mode,n,neg⟩:=mk;have g:=h8.node;have d2:=hkp.cell g.c2 (by simp);have hcap:=hok.nodes.cap;have hle:=hok.nodes.le;unfold maxLen at hcap;have HRR:=gi hrr;have hk0:(0:Int)≤(k:Int):=by omega
   have hk1:(k:Int) < (path.length:Int):=by omega
   clear hpx g hrr hok h8 hkp
   by_cases hx:0≤x∧x < kids.length
   ·obtain ⟨hx0,hx1⟩:=hx;obtain ⟨i,rfl⟩:∃ i:Nat,x=(i:Int):=⟨x.toNat,by omega⟩;have hi:i < kids.length:=by omega
    have hin0:¬ (kids.length:Int)≤(i:Int):=by omega
    have hnn:¬ (i:Int) < 0:=by omega
    obtain ⟨b',off,rfl,hbb,hkx⟩:=HOK.o.kids.nodes.kid (by omega);have HKX:=gi (hkx i hi);have HKO:=gi (HOK.o.kid (List.getElem_mem hi));have HRN:=gi (show R=nodeAt kids[i] b' (off + i * 8) (path.drop (k + 1)) by rw [HRR.o,nodeAt_cons rfl i rfl hi]);clear hkx hbb;go_wp2;go_roundw
    case rel=> exact ⟨k + 1,kids[i],b',off + i * 8,by omega,by go_num,rfl,HKX.o,HKO.o,KP.o,HRN.o⟩
    case measure=> simp [intOf];omega
   ·have HRN:=gi (show R=none by rw [HRR.o,nodeAt_out hx])
    by_cases hxn:x < 0
    ·clear hx;go_wp2;go_ret;exact ⟨by rw [HRN.o];rfl,KP.o,by rw [HRN.o];trivial⟩
    ·have hxg:(kids.length:Int)≤x:=by omega
     clear hx;go_wp2;go_ret;exact ⟨by rw [HRN.o];rfl,KP.o,by rw [HRN.o];trivial⟩
  ·obtain rfl:k=path.length:=by omega
   rw [List.drop_length] at hrr;have HRN:=gi (show R=some (mk,bb,oo) from hrr);clear hrr hok h8 hkp;go_wp2;go_ret;exact ⟨by rw [HRN.o];rfl,KP.o,by rw [HRN.o];exact ⟨H8K.o.keep KP.o,HOK.o.keep KP.o⟩⟩
mutual
def MRe.kb:MRe→List Nat
 | .node _ _ _ _ ka _ kids _ _ _ _ _=> blockIf kids.length ka ++ MRe.kbL kids
def MRe.kbL:List MRe→List Nat
 | []=> []
 | k::ks=> k.kb ++ MRe.kbL ks
end
theorem MRe.kbL_append (a b:List MRe):MRe.kbL (a ++ b)=MRe.kbL a ++ MRe.kbL b:=by
 induction a with
 | nil=> rfl
 | cons x r ih=> simp [MRe.kbL,ih]
theorem blocksL_app (a b:List MRe):MRe.blocksL (a ++ b)=MRe.blocksL a ++ MRe.blocksL b:=by
 induction a with
 | nil=> rfl
 | cons x r ih=> simp [MRe.blocksL,ih]
def Sole (lo hi:Nat) (l:List Nat):Prop:=l.Nodup∧∀ b∈l,lo≤b∧b < hi
theorem Sole.nil (lo hi:Nat):Sole lo hi []:=⟨List.nodup_nil,by simp⟩
theorem Sole.up {lo hi hi':Nat} {l:List Nat} (h:Sole lo hi l) (hh:hi≤hi'):Sole lo hi' l:=⟨h.1,fun b hb=> ⟨(h.2 b hb).1,by have:=(h.2 b hb).2;omega⟩⟩
theorem Sole.app {lo mid mid' hi:Nat} {a b:List Nat} (h:Sole lo mid a) (k:Sole mid' hi b) (h1:mid≤mid') (h2:lo≤mid') (h3:mid≤hi):Sole lo hi (a ++ b):=by
 refine ⟨List.nodup_append.2 ⟨h.1,k.1,fun x hx y hy=> ?_⟩,fun x hx=> ?_⟩
 ·have:=(h.2 x hx).2
  have:=(k.2 y hy).1
  omega
 ·rcases List.mem_append.1 hx with hx | hx
  ·have:=h.2 x hx;omega
  ·have:=k.2 x hx;omega
theorem Sole.swap {lo hi hi':Nat} {s l a:List Nat} {g:Nat} (h:Sole lo hi (s ++ (a ++ l))) (hg:hi≤g) (hg':g < hi') (hlo:lo≤g):Sole lo hi' (s ++ ([g] ++ l)):=by
 obtain ⟨h1,h2⟩:=h;rw [List.nodup_append] at h1;obtain ⟨n1,n2,n3⟩:=h1;rw [List.nodup_append] at n2;obtain ⟨n4,n5,n6⟩:=n2;have hs:∀ x∈s,x < hi:=fun x hx=> (h2 x (List.mem_append_left _ hx)).2;have hl:∀ x∈l,x < hi:=fun x hx=> (h2 x (List.mem_append_right _ (List.mem_append_right _ hx))).2;refine ⟨List.nodup_append.2 ⟨n1,List.nodup_append.2 ⟨by simp,n5,fun x hx y hy=> ?_⟩,fun x hx y hy=> ?_⟩,fun x hx=> ?_⟩
 ·simp at hx;subst hx;have:=hl y hy;omega
 ·simp only [List.cons_append,List.nil_append,List.mem_cons] at hy
  rcases hy with rfl | hy
  ·have:=hs x hx;omega
  ·exact n3 x hx y (List.mem_append_right _ hy)
 ·rcases List.mem_append.1 hx with hx | hx
  ·have:=h2 x (List.mem_append_left _ hx);omega
  ·simp only [List.cons_append,List.nil_append,List.mem_cons] at hx
   rcases hx with rfl | hx
   ·exact ⟨hlo,hg'⟩
   ·have:=h2 x (List.mem_append_right _ (List.mem_append_right _ hx));omega
def Soft (w:World) (l:List Nat):Prop:=∀ b∈l,∀ o,w.frozen? ⟨b,o,none⟩=false
theorem Soft.keepS {w w':World} {S l:List Nat} (h:Soft w l) (k:Keeps S w w') (hs:∀ b∈l,b < w.heap.size) (hn:∀ b∈l,b ∉ S):Soft w' l:=fun b hb o=> by
 have:=h b hb o
 simp only [World.frozen?] at this ⊢;rw [k.block b (hs b hb) (hn b hb)];exact this
def CloneA (w:World) (t:Tree) (e:Ending) (w':World):Prop:=
 ∃ m:MRe,e=.returned m.val∧m.tree=t∧m.OK w'∧Keeps [] w w'∧Sole w.heap.size w'.heap.size m.blocks∧Soft w' m.kb
theorem two_stores {w:World} {B T:Nat} {op mn mx mode n:Int} {neg:Bool} {s1 k1:Value} (h:w.heap[B]? =some (.cells #[H J op,s1,k1,H J mn,H J mx,H J mode,H J n,F neg] T (0,0))) (v u:Value):
  ((w.setCell ⟨B,1,none⟩ v).setCell ⟨B,2,none⟩ u).heap[B]? =some (.cells #[H J op,v,u,H J mn,H J mx,H J mode,H J n,F neg] T (0,0)):=by
 have h1:(w.setCell ⟨B,1,none⟩ v).heap[B]? =some (.cells #[H J op,v,k1,H J mn,H J mx,H J mode,H J n,F neg] T (0,0)):=heap_setCell_same _ B 1 _ T v h;exact heap_setCell_same _ B 2 _ T u h1
theorem one_store {w:World} {B T:Nat} {op mn mx mode n:Int} {neg:Bool} {s1 k1:Value} (h:w.heap[B]? =some (.cells #[H J op,s1,k1,H J mn,H J mx,H J mode,H J n,F neg] T (0,0))) (u:Value):
  (w.setCell ⟨B,2,none⟩ u).heap[B]? =some (.cells #[H J op,s1,u,H J mn,H J mx,H J mode,H J n,F neg] T (0,0)):=heap_setCell_same _ B 2 _ T u h
theorem blockIf_sl {n:Nat} {a:Option Nat} (h:n=0→a=none):blockIf n (a.map fun g=> (⟨g,0,none⟩:Addr))=a.toList:=by
 unfold blockIf
 split
 ·rename_i h0;rw [h h0];rfl
 ·cases a <;> rfl
theorem blockIf_nodup (n:Nat) (a:Option Addr):(blockIf n a).Nodup:=by
 unfold blockIf
 split
 ·exact List.nodup_nil
 ·cases a <;> simp
structure CInvA (w:World) (B:Nat) (op:Int) (sa:Option Addr) (sc:Nat) (set:List (Int × Int)) (mn mx mode n:Int) (neg:Bool) (tk:List Tree) (k:Nat) (wr:World) (a:Option Nat) (c:Nat) (ks:List MRe):Prop where
 len:ks.length=k
 none_:k=0→a=none
 sl:SliceAt wr 26 8 a k c (flatK ks)
 tr:MRe.trees ks=tk.take k
 ok:∀ x∈ks,x.OK wr
 row:wr.heap[B]? =some (.cells #[H J op,M sa set.length sc,sv a k c,H J mn,H J mx,H J mode,H J n,F neg] 26 (0,0))
 zero:wr.heap[B + 1]? =some (.cells #[H J 0,M none 0 0,M none 0 0,H J 0,H J 0,H J 0,H J 0,F false] 26 (0,0))
 sp:SpansIn wr sa sc set
 keep:Keeps [] w wr
 sole:Sole (B + 2) wr.heap.size (blockIf set.length sa ++ (a.toList ++ MRe.blocksL ks))
 soft:Soft wr (a.toList ++ MRe.kbL ks)
def CInv (w:World) (B:Nat) (op:Int) (sa:Option Addr) (sc:Nat) (set:List (Int × Int)) (mn mx mode n:Int) (neg:Bool) (tk:List Tree) (k:Nat) (wr:World):Prop:=∃ a c ks,CInvA w B op sa sc set mn mx mode n neg tk k wr a c ks
theorem MRe.kb_sub:∀ m:MRe,∀ b∈m.kb,b∈m.blocks:=by
 intro m
 induction m using MRe.induct with
 | h op sa sc set ka kc kids mn mx mode n neg ih=>
  intro b hb;simp only [MRe.kb,List.mem_append] at hb;simp only [MRe.blocks,List.mem_append]
  rcases hb with hb | hb
  ·exact .inr (.inl hb)
  ·right;right
   have:∀ l:List MRe,(∀ x∈l,∀ b∈x.kb,b∈x.blocks)→∀ b∈MRe.kbL l,b∈MRe.blocksL l:=by
    intro l
    induction l with
    | nil=> intro _ b hb;exact hb
    | cons x r ih2=>
     intro h b hb;simp only [MRe.kbL,List.mem_append] at hb;simp only [MRe.blocksL,List.mem_append]
     rcases hb with hb | hb
     ·exact .inl (h x (by simp) b hb)
     ·exact .inr (ih2 (fun y hy=> h y (by simp [hy])) b hb)
   exact this kids ih b hb
theorem kbL_sub {l:List MRe}:∀ b∈MRe.kbL l,b∈MRe.blocksL l:=by
 induction l with
 | nil=> intro b hb;exact hb
 | cons x r ih=>
  intro b hb;simp only [MRe.kbL,List.mem_append] at hb;simp only [MRe.blocksL,List.mem_append]
  rcases hb with hb | hb
  ·exact .inl (MRe.kb_sub x b hb)
  ·exact .inr (ih b hb)
theorem clone_step {w wr w5 w6 w7 w8:World} {B:Nat} {op mn mx mode n:Int} {neg:Bool} {sa:Option Addr} {sc:Nat} {set:List (Int × Int)} {tk:List Tree} {k c c2:Nat} {a a2:Option Nat} {ks:List MRe} {m:MRe} {t:Tree}
  (h:CInvA w B op sa sc set mn mx mode n neg tk k wr a c ks) (hBw:w.heap.size≤B) (hlt:k < tk.length) (ht:tk[k]=t) (h5:Keeps [] wr w5) (h56:Keeps [] w5 w6) (hm:m.tree=t) (ho:m.OK w6) (hs:Sole w5.heap.size w6.heap.size m.blocks) (hf:Soft w6 m.kb)
  (h67:Keeps [] w6 w7) (hsl:SliceAt w8 26 8 a2 (k + 1) c2 (flatK ks ++ m.row)) (h78:Keeps a.toList w7 w8) (ha:a2=a∨∃ g,a2=some g∧w7.heap.size≤g):
  CInv w B op sa sc set mn mx mode n neg tk (k + 1) (w8.setCell ⟨B,2,none⟩ (sv a2 (k + 1) c2)):=by
 have hBlt:B + 1 < wr.heap.size:=lt_of_block h.zero;have h57:wr.heap.size≤w5.heap.size:=h5.size;have s56:=h56.size;have s67:=h67.size;have s78:=h78.size;have hal:∀ g,a=some g→B + 2≤g∧g < wr.heap.size:=fun g hg=> h.sole.2 g (by simp [hg]);have hk7:Keeps [] wr w7:=(h5.trans h56).trans h67;have hkB:Keeps [B] w8 (w8.setCell ⟨B,2,none⟩ (sv a2 (k + 1) c2)):=(Keeps.refl [B] w8).setCell (p:=⟨B,2,none⟩) (.inl (by simp)) _;have hsz9:(w8.setCell ⟨B,2,none⟩ (sv a2 (k + 1) c2)).heap.size=w8.heap.size:=by have:=hkB.size;simp
 have ha2:∃ g,a2=some g:=by
  rcases ha with rfl | ⟨g,rfl,_⟩
  ·cases a2 with
   | none=> have:=hsl.2.1;omega
   | some g=> exact ⟨g,rfl⟩
  ·exact ⟨g,rfl⟩
 obtain ⟨g,rfl⟩:=ha2;have hgB:B + 2≤g:=by
  rcases ha with h1 | ⟨g',h1,h2⟩
  ·exact (hal g h1.symm).1
  ·cases h1;omega
 have hgl:g < w8.heap.size:=hsl.lt;have hold:∀ b∈blockIf set.length sa ++ (a.toList ++ MRe.blocksL ks),B + 2≤b∧b < wr.heap.size:=h.sole.2;have hna:∀ b∈MRe.blocksL ks,b ∉ a.toList:=fun b hb hx=> by
  have:=(List.nodup_append.1 (List.nodup_append.1 h.sole.1).2.1).2.2
  exact this b hx b hb rfl
 have hnas:∀ b∈blockIf set.length sa,b ∉ a.toList:=fun b hb hx=> (List.nodup_append.1 h.sole.1).2.2 b hb b (List.mem_append_left _ hx) rfl;have hmlt:∀ b∈m.blocks,w5.heap.size≤b∧b < w6.heap.size:=hs.2;have hma:∀ b∈m.blocks,b ∉ a.toList:=fun b hb hx=> by
  have h1:=hmlt b hb
  cases a with
  | none=> simp at hx
  | some g'=> simp at hx;subst hx;have:=hal b rfl;omega
 have hok8:∀ x∈ks,x.OK w8:=fun x hx=> ((h.ok x hx).keep hk7).keepS h78 fun b hb=> hna b (MRe.mem_blocksL hx hb);have hmo8:m.OK w8:=(ho.keep h67).keepS h78 hma;have hsp8:SpansIn w8 sa sc set:=(h.sp.keep hk7).keepS h78 hnas;have hrow8:w8.heap[B]? =some (.cells #[H J op,M sa set.length sc,sv a k c,H J mn,H J mx,H J mode,H J n,F neg] 26 (0,0)):=h78.heap (hk7.heap h.row (by simp)) (fun hx=> by cases a with | none=> simp at hx | some g'=> simp at hx;have:=hal g' rfl;omega);have hz8:w8.heap[B + 1]? =some (.cells #[H J 0,M none 0 0,M none 0 0,H J 0,H J 0,H J 0,H J 0,F false] 26 (0,0)):=h78.heap (hk7.heap h.zero (by simp)) (fun hx=> by cases a with | none=> simp at hx | some g'=> simp at hx;have:=hal g' rfl;omega);have hsoft8:Soft w8 (MRe.kbL ks):=by
  have h1:Soft wr (MRe.kbL ks):=fun b hb=> h.soft b (List.mem_append_right _ hb);have h2:Soft w7 (MRe.kbL ks):=h1.keepS hk7 (fun b hb=> (hold b (List.mem_append_right _ (List.mem_append_right _ (kbL_sub b hb)))).2) (by simp);exact h2.keepS h78 (fun b hb=> by have:=(hold b (List.mem_append_right _ (List.mem_append_right _ (kbL_sub b hb)))).2;have:=hk7.size;omega) (fun b hb=> hna b (kbL_sub b hb))
 have hmsoft8:Soft w8 m.kb:=(hf.keepS h67 (fun b hb=> (hmlt b (MRe.kb_sub m b hb)).2) (by simp)).keepS h78 (fun b hb=> by have:=(hmlt b (MRe.kb_sub m b hb)).2;omega) (fun b hb=> hma b (MRe.kb_sub m b hb));have hneB:∀ b,B + 2≤b→b ∉ [B]:=fun b hb=> by simp;omega
 have hall:∀ b∈MRe.blocksL ks,B + 2≤b:=fun b hb=> (hold b (List.mem_append_right _ (List.mem_append_right _ hb))).1;refine ⟨some g,c2,ks ++ [m],⟨by simp [h.len],fun h0=> by omega,?_,?_,?_,one_store hrow8 _,hkB.h hz8,hsp8.keepS hkB (fun b hb=> hneB b (hold b (List.mem_append_left _ hb)).1),?_,?_,?_⟩⟩
 ·rw [flatK_append,show flatK [m]=m.row by simp [flatK]];exact hsl.keep hkB (fun x hx=> by cases hx;exact hneB g hgB)
 ·rw [trees_append,h.tr,List.take_succ_eq_append_getElem hlt,ht,←hm];rfl
 ·intro x hx
  rcases List.mem_append.1 hx with hx | hx
  ·exact (hok8 x hx).keepS hkB fun b hb=> hneB b (hall b (MRe.mem_blocksL hx hb))
  ·simp at hx;subst hx;exact hmo8.keepS hkB fun b hb=> hneB b (by have:=(hmlt b hb).1;omega)
 ·have h1:Keeps [] w w8:=(h.keep.trans hk7).after h78 (fun x hx=> .inr (by cases a with | none=> simp at hx | some g'=> simp at hx;subst hx;have:=hal x rfl;omega));exact h1.after hkB (fun x hx=> .inr (by simp at hx;subst hx;exact hBw))
 ·rw [blocksL_app,show MRe.blocksL [m]=m.blocks by simp [MRe.blocksL],hsz9];have hb:Sole (B + 2) w6.heap.size ((blockIf set.length sa ++ (a.toList ++ MRe.blocksL ks)) ++ m.blocks):=h.sole.app hs h57 (by omega) (by omega);have he:(blockIf set.length sa ++ (a.toList ++ MRe.blocksL ks)) ++ m.blocks=blockIf set.length sa ++ (a.toList ++ (MRe.blocksL ks ++ m.blocks)):=by simp [List.append_assoc]
  rw [he] at hb
  rcases ha with h1 | ⟨g',h1,h2⟩
  ·rw [←h1] at hb;exact hb.up (by omega)
  ·cases h1
   exact hb.swap (by omega) hgl hgB
 ·intro b hb o;rw [MRe.kbL_append,show MRe.kbL [m]=m.kb by simp [MRe.kbL]] at hb;have hsx:Soft (w8.setCell ⟨B,2,none⟩ (sv (some g) (k + 1) c2)) ([g] ++ (MRe.kbL ks ++ m.kb)):=by
   refine Soft.keepS (w:=w8) (fun b hb o=> ?_) hkB (fun b hb=> ?_) (fun b hb=> ?_)
   ·rcases List.mem_append.1 hb with hb | hb
    ·simp at hb;subst hb;exact hsl.fz o
    ·rcases List.mem_append.1 hb with hb | hb
     ·exact hsoft8 b hb o
     ·exact hmsoft8 b hb o
   ·rcases List.mem_append.1 hb with hb | hb
    ·simp at hb;subst hb;exact hgl
    ·rcases List.mem_append.1 hb with hb | hb
     ·have:=(hold b (List.mem_append_right _ (List.mem_append_right _ (kbL_sub b hb)))).2;have:=hk7.size;omega
     ·have:=(hmlt b (MRe.kb_sub m b hb)).2;omega
   ·rcases List.mem_append.1 hb with hb | hb
    ·simp at hb;subst hb;exact hneB b hgB
    ·rcases List.mem_append.1 hb with hb | hb
     ·exact hneB b (hall b (kbL_sub b hb))
     ·exact hneB b (by have:=(hmlt b (MRe.kb_sub m b hb)).1;omega)
  exact hsx b (by simpa using hb) o
theorem aclone_any (m:MRe):∀ (w:World),m.OK w→m.tree.bulk≤1000000→
  Calls Tryz.prog 65 #[m.val] w (CloneA w m.tree):=by
 obtain ⟨i0,hi0,hz0,hz1,hz2⟩:=info_parts infoRe;have Hi:=gi hi0;have Hz0:=gi hz0;have Hz1:=gi hz1;have Hz2:=gi hz2;clear hi0 hz0 hz1 hz2
 induction m using MRe.induct with
 | h op sa sc set ka kc kids mn mx mode n neg ih=>
  intro w k1 hbk;obtain ⟨hbl,hbs,hbm⟩:=kids_bulk hbk;have hcap:=k1.nodes.cap;have hle:=k1.nodes.le;unfold maxLen at hcap;have HK1:=gi k1.kids;have HI:=gi ih;have HBM:=gi hbm;have HSPN:=gi k1.spans;obtain ⟨B,hBe⟩:∃ B,B=w.heap.size:=⟨_,rfl⟩;obtain ⟨Y,hYe⟩:∃ Y,Y=(w.alloc (.cells #[H J op,M sa set.length sc,M ka kids.length kc,H J mn,H J mx,H J mode,H J n,F neg] 26)).alloc (.cells #[H J 0,M none 0 0,M none 0 0,H J 0,H J 0,H J 0,H J 0,F false] 26):=⟨_,rfl⟩;have hkY:Keeps [] w Y:=by rw [hYe];exact Keeps.a2 _ _ _
  have hb1:Y.heap[B]? =some (.cells #[H J op,M sa set.length sc,M ka kids.length kc,H J mn,H J mx,H J mode,H J n,F neg] 26 (0,0)):=by rw [hYe,hBe];exact (Keeps.a1 _ _).heap (heap_alloc_new w _) (by simp)
  have hz:Y.heap[B + 1]? =some (.cells #[H J 0,M none 0 0,M none 0 0,H J 0,H J 0,H J 0,H J 0,F false] 26 (0,0)):=by rw [hYe,hBe];exact heap_alloc2_new w _ _
  have hsz:Y.heap.size=B + 2:=by rw [hYe,hBe];simp
  have HSC:=gi (spanClone_any sa sc set Y (k1.spans.keep hkY) hbs);have HYE:=gi hYe;have HBE:=gi hBe;have KY:=gi hkY;have HZ:=gi hz;have HB1:=gi hb1;have HSZ:=gi hsz;obtain ⟨c0,c1,c2,c3,c4,c5,c6,c7⟩:=row_cells hb1;clear ih k1 hbk hbm hBe hYe hkY hz hb1 hsz;simp only [MRe.val];go_enter Tryz.func65,Tryz.ntmps65
  go_upto_region 1 with fail
  rw [←HYE.o,←HBE.o];go_wp2_with fail
  refine Calls.mono HSC.o ?_;rintro e w3 ⟨sa',sc',rfl,hsp,hk3,hfr⟩;have HB3:=gi (hk3.h HB1.o);have HZ3:=gi (hk3.h HZ.o);have HSP:=gi hsp;have HFR:=gi hfr;have K3:=gi hk3;clear hsp hk3 hfr c0 c1 c2 c3 c4 c5 c6 c7;obtain ⟨c0,c1,c2,c3,c4,c5,c6,c7⟩:=row_cells HB3.o;have cf:=row_frozen HB3.o;go_upto_region 4 with fail
  obtain ⟨X,hXe⟩:∃ X,X=(w3.setCell ⟨B,1,none⟩ (M sa' set.length sc')).setCell ⟨B,2,none⟩ (M none 0 0):=⟨_,rfl⟩;rw [←hXe];have hkX:Keeps [B] w3 X:=by rw [hXe];exact ((Keeps.refl [B] w3).setCell (p:=⟨B,1,none⟩) (.inl (by simp)) _).setCell (p:=⟨B,2,none⟩) (.inl (by simp)) _
  have hbX:=two_stores HB3.o (M sa' set.length sc') (M none 0 0);rw [←hXe] at hbX;have hspb:∀ b∈blockIf set.length sa',B + 2≤b∧b < X.heap.size:=fun b hb=> by
   have h1:=HFR.o b hb;have h2:=HSZ.o;have h3:=HSP.o.block_lt b hb;have h4:=hkX.size;omega
  have hBw:w.heap.size≤B:=by rw [HBE.o];exact Nat.le_refl _
  have HINV:=gi (show CInv w B op sa' sc' set mn mx mode n neg (MRe.trees kids) 0 X from ⟨none,0,[],rfl,fun _=> rfl,SliceAt.nil _ _ _,rfl,by simp,hbX,hkX.h HZ3.o,HSP.o.keepS hkX (fun b hb=> by have:=(hspb b hb).1;simp;omega),(KY.o.trans K3.o).after hkX (by intro x hx;simp at hx;subst hx;exact .inr hBw),⟨by simpa [MRe.blocksL] using blockIf_nodup _ _,fun b hb=> hspb b (by simpa [MRe.blocksL] using hb)⟩,by intro b hb;simp [MRe.kbL] at hb⟩);clear hXe hkX hbX hspb HB3 HZ3 HSP HFR K3 HSC c0 c1 c2 c3 c4 c5 c6 c7 cf;go_wp2
  go_loopw [5,15] (fun _ i wr=> ∃ k:Nat,k≤kids.length∧i=H J k∧CInv w B op sa' sc' set mn mx mode n neg (MRe.trees kids) k wr) (fun _ i _=> kids.length - (intOf i).toNat)
  case atStart=> exact ⟨0,Nat.zero_le _,rfl,HINV.o⟩
  case round=>
   obtain ⟨k,hkk,rfl,a,c,ks,hinv⟩:=hrel;have HV:=gi hinv;have HROW:=gi hinv.row
   by_cases hlt:k < kids.length
   ·obtain ⟨b,off,rfl,hbb,hx⟩:=(HK1.o.keep hinv.keep).nodes.kid (by omega);have hx0:=hx k hlt;have HC:=gi (fun W (h:Keeps [] wr W)=> HI.o kids[k] (List.getElem_mem hlt) W (((HK1.o.keep hinv.keep).all _ (List.getElem_mem hlt)).keep h) (HBM.o _ (List.getElem_mem hlt)));have hlt':k < (MRe.trees kids).length:=by rw [MRe.trees_length];exact hlt
    have htk:(MRe.trees kids)[k]'hlt'=kids[k].tree:=trees_getElem kids k hlt;obtain ⟨T,hT⟩:∃ T,T=kids[k].tree:=⟨_,rfl⟩;rw [←hT] at htk HC;have HTK:=gi htk
    generalize kids[k]=kk at *
    obtain ⟨op1,sa1,sc1,set1,ka1,kc1,kids1,mn1,mx1,mode1,n1,neg1⟩:=kk;have g:=hx0.node;obtain ⟨e0,e1,e2,e3,e4,e5,e6,e7⟩:=id g;simp only [MRe.val] at HC;have hk0:(0:Int)≤(k:Int):=by omega
    have hk1:(k:Int) < (kids.length:Int):=by omega
    have hkb1:k≤1000000:=by omega
    clear g hx hx0 hT hbb hinv htk;go_upto_region 7 with fail
    obtain ⟨W5,hW5⟩:∃ W5,W5=wr.alloc (.cells #[H J op1,M sa1 set1.length sc1,M ka1 kids1.length kc1,H J mn1,H J mx1,H J mode1,H J n1,F neg1] 26):=⟨_,rfl⟩;obtain ⟨G5,hG5⟩:∃ G5,G5=wr.heap.size:=⟨_,rfl⟩;have hk5:Keeps [] wr W5:=by rw [hW5];exact Keeps.a1 _ _
    have h5:W5.heap[G5]? =some (.cells #[H J op1,M sa1 set1.length sc1,M ka1 kids1.length kc1,H J mn1,H J mx1,H J mode1,H J n1,F neg1] 26 (0,0)):=by rw [hW5,hG5];exact heap_alloc_new wr _
    rw [←hW5,←hG5];have K5:=gi hk5;have HG5:=gi hG5;have HR5:=gi (hk5.h HROW.o);obtain ⟨f0,f1,f2,f3,f4,f5,f6,f7⟩:=row_cells h5;have hGB:¬ G5=B:=by have:=lt_of_block HROW.o;omega
    clear hW5 hG5 hk5 h5 e0 e1 e2 e3 e4 e5 e6 e7;have K0:=gi ((Keeps.refl [] W5).drew);refine rg (S:=fun w'=> w'.cell? ⟨G5,0,none⟩=some (H J op1)∧w'.cell? ⟨G5,1,none⟩=some (M sa1 set1.length sc1)∧w'.cell? ⟨G5,2,none⟩=some (M ka1 kids1.length kc1)∧w'.cell? ⟨G5,3,none⟩=some (H J mn1)∧w'.cell? ⟨G5,4,none⟩=some (H J mx1)∧w'.cell? ⟨G5,5,none⟩=some (H J mode1)∧w'.cell? ⟨G5,6,none⟩=some (H J n1)∧w'.cell? ⟨G5,7,none⟩=some (F neg1)) (fun _ k=> ⟨k.c f0,k.c f1,k.c f2,k.c f3,k.c f4,k.c f5,k.c f6,k.c f7⟩) fun kz hHeld=> ?_;refine tk 0 ?_;refine tk 2 ?_;refine j7 1 3 (fun K hK=> ?_) fun K hK=> ?_
    ·have HBL:=gi (K0.o.h HR5.o);obtain ⟨b0,b1,b2,b3,b4,b5,b6,b7⟩:=row_cells HBL.o;go_simp;clear b0 b1 b2 b3 b4 b5 b6 b7;refine hK.out _ _ (kz.o _ K0.o) fun hHeld=> ?_;clear hK K;try go_frame
     refine j6 3 fun K hK=> ?_;go_simp;refine Calls.mono (HC.o _ (K5.o.trans K0.o)) ?_;rintro ee w6 ⟨q,rfl,hqt,hqo,hk6,hqs,hqf⟩;have QT:=gi hqt;have QO:=gi hqo;have QS:=gi hqs;have QF:=gi hqf;obtain ⟨q0,hq0⟩:∃ q0,q0=q:=⟨_,rfl⟩;rw [←hq0] at QT QO QS QF;have Q0:=gi hq0;obtain ⟨op9,sa9,sc9,set9,ka9,kc9,kids9,mn9,mx9,mode9,n9,neg9⟩:=q;simp only [MRe.val];have K6:=gi (K0.o.trans hk6);clear hqt hqo hk6 hqs hqf hq0;refine hK.out _ _ (kz.o _ K6.o) fun hHeld=> ?_;clear hK K;try go_frame
     refine j6 4 fun K hK=> ?_;go_simp;have K7:=gi (K6.o.trans (Keeps.a1 w6 (.cells #[H J op9,M sa9 set9.length sc9,M ka9 kids9.length kc9,H J mn9,H J mx9,H J mode9,H J n9,F neg9] 26)));refine hK.out _ _ (kz.o _ K7.o) fun hHeld=> ?_;clear hK K;try go_frame
     refine j6 5 fun K hK=> ?_;refine oper_append_any (.tmp 20) (.tmp 23) 24 rfl 26 i0 _ 8 96 Tryz.underlying24 Hi.o Hz0.o Hz1.o Hz2.o rfl (by decide) a k c _ rfl (HV.o.sl.keep (K5.o.trans K7.o) (by simp)) (some ⟨w6.heap.size,0,none⟩) 1 1 (flatK [(.node op9 sa9 sc9 set9 ka9 kc9 kids9 mn9 mx9 mode9 n9 neg9:MRe)]) rfl rfl (fun _=> ⟨_,rfl,news_row w6 [H J op9,M sa9 set9.length sc9,M ka9 kids9.length kc9,H J mn9,H J mx9,H J mode9,H J n9,F neg9] 26⟩) (flatK_one _) (by omega) (by omega) ?_;intro a2 c2 w8 hsl hk8 ha;have hne:∀ x∈a.toList,B + 2≤x∧x < wr.heap.size:=fun x hx=> HV.o.sole.2 x (List.mem_append_right _ (List.mem_append_left _ hx));have hB8:=hk8.heap ((K7.o.h HR5.o)) (fun hx=> by have:=(hne B hx).1;omega);have HB8:=gi hB8;have HST:=gi (clone_step (m:=q0) HV.o hBw (by rw [MRe.trees_length];exact hlt) HTK.o K5.o K6.o QT.o QO.o QS.o QF.o (Keeps.a1 w6 (.cells #[H J op9,M sa9 set9.length sc9,M ka9 kids9.length kc9,H J mn9,H J mx9,H J mode9,H J n9,F neg9] 26)) (by rw [Q0.o];simpa [flatK] using hsl) hk8 ha);have hG5a:∀ x∈a.toList,x≠G5:=fun x hx h=> by have h1:=hne x hx;have h2:=HG5.o;omega
     have g0:=hk8.cell (K7.o.c f0) (fun hx=> hG5a _ hx rfl);have g1:=hk8.cell (K7.o.c f1) (fun hx=> hG5a _ hx rfl);have g2:=hk8.cell (K7.o.c f2) (fun hx=> hG5a _ hx rfl);have g3:=hk8.cell (K7.o.c f3) (fun hx=> hG5a _ hx rfl);have g4:=hk8.cell (K7.o.c f4) (fun hx=> hG5a _ hx rfl);have g5:=hk8.cell (K7.o.c f5) (fun hx=> hG5a _ hx rfl);have g6:=hk8.cell (K7.o.c f6) (fun hx=> hG5a _ hx rfl);have g7:=hk8.cell (K7.o.c f7) (fun hx=> hG5a _ hx rfl);clear hsl hk8 ha hne hB8 hG5a;refine hK.out _ _ (⟨g0,g1,g2,g3,g4,g5,g6,g7⟩) (fun hHeld=> ?_);clear hK K;try go_frame
     refine tk 6 ?_;simp only [sv];obtain ⟨b0,b1,b2,b3,b4,b5,b6,b7⟩:=row_cells HB8.o;have bf:=row_frozen HB8.o;refine j6 7 fun K hK=> ?_;go_simp;have KS:=gi ((Keeps.refl [B] w8).setCell (p:=⟨B,2,none⟩) (.inl (by simp)) (sv a2 (k + 1) c2));clear b0 b1 b2 b3 b4 b5 b6 b7 bf;refine hK.out _ _ (⟨KS.o.cell g0 (by simp;exact hGB),KS.o.cell g1 (by simp;exact hGB),KS.o.cell g2 (by simp;exact hGB),KS.o.cell g3 (by simp;exact hGB),KS.o.cell g4 (by simp;exact hGB),KS.o.cell g5 (by simp;exact hGB),KS.o.cell g6 (by simp;exact hGB),KS.o.cell g7 (by simp;exact hGB)⟩) (fun hHeld=> ?_);clear hK K;try go_frame
     refine wd ?_;clear f0 f1 f2 f3 f4 f5 f6 f7 g0 g1 g2 g3 g4 g5 g6 g7 hHeld;go_wp2;go_roundw
     case rel=> exact ⟨k + 1,by omega,by go_num,HST.o⟩
     case measure=> simp [intOf];omega
    ·go_simp;refine Calls.mono (HC.o _ (K5.o.trans K0.o)) ?_;rintro ee w6 ⟨q,rfl,hqt,hqo,hk6,hqs,hqf⟩;have QT:=gi hqt;have QO:=gi hqo;have QS:=gi hqs;have QF:=gi hqf;obtain ⟨q0,hq0⟩:∃ q0,q0=q:=⟨_,rfl⟩;rw [←hq0] at QT QO QS QF;have Q0:=gi hq0;obtain ⟨op9,sa9,sc9,set9,ka9,kc9,kids9,mn9,mx9,mode9,n9,neg9⟩:=q;simp only [MRe.val];have K6:=gi (K0.o.trans hk6);clear hqt hqo hk6 hqs hqf hq0;refine hK.out _ _ (kz.o _ K6.o) fun hHeld=> ?_;clear hK K;try go_frame
     refine j7 1 4 (fun K hK=> ?_) fun K hK=> ?_
     ·have HBL:=gi (K6.o.h HR5.o);obtain ⟨b0,b1,b2,b3,b4,b5,b6,b7⟩:=row_cells HBL.o;go_simp;clear b0 b1 b2 b3 b4 b5 b6 b7;refine hK.out _ _ (kz.o _ K6.o) fun hHeld=> ?_;clear hK K;try go_frame
      refine j6 4 fun K hK=> ?_;go_simp;have K7:=gi (K6.o.trans (Keeps.a1 w6 (.cells #[H J op9,M sa9 set9.length sc9,M ka9 kids9.length kc9,H J mn9,H J mx9,H J mode9,H J n9,F neg9] 26)));refine hK.out _ _ (kz.o _ K7.o) fun hHeld=> ?_;clear hK K;try go_frame
      refine j6 5 fun K hK=> ?_;refine oper_append_any (.tmp 20) (.tmp 23) 24 rfl 26 i0 _ 8 96 Tryz.underlying24 Hi.o Hz0.o Hz1.o Hz2.o rfl (by decide) a k c _ rfl (HV.o.sl.keep (K5.o.trans K7.o) (by simp)) (some ⟨w6.heap.size,0,none⟩) 1 1 (flatK [(.node op9 sa9 sc9 set9 ka9 kc9 kids9 mn9 mx9 mode9 n9 neg9:MRe)]) rfl rfl (fun _=> ⟨_,rfl,news_row w6 [H J op9,M sa9 set9.length sc9,M ka9 kids9.length kc9,H J mn9,H J mx9,H J mode9,H J n9,F neg9] 26⟩) (flatK_one _) (by omega) (by omega) ?_;intro a2 c2 w8 hsl hk8 ha;have hne:∀ x∈a.toList,B + 2≤x∧x < wr.heap.size:=fun x hx=> HV.o.sole.2 x (List.mem_append_right _ (List.mem_append_left _ hx));have hB8:=hk8.heap ((K7.o.h HR5.o)) (fun hx=> by have:=(hne B hx).1;omega);have HB8:=gi hB8;have HST:=gi (clone_step (m:=q0) HV.o hBw (by rw [MRe.trees_length];exact hlt) HTK.o K5.o K6.o QT.o QO.o QS.o QF.o (Keeps.a1 w6 (.cells #[H J op9,M sa9 set9.length sc9,M ka9 kids9.length kc9,H J mn9,H J mx9,H J mode9,H J n9,F neg9] 26)) (by rw [Q0.o];simpa [flatK] using hsl) hk8 ha);have hG5a:∀ x∈a.toList,x≠G5:=fun x hx h=> by have h1:=hne x hx;have h2:=HG5.o;omega
      have g0:=hk8.cell (K7.o.c f0) (fun hx=> hG5a _ hx rfl);have g1:=hk8.cell (K7.o.c f1) (fun hx=> hG5a _ hx rfl);have g2:=hk8.cell (K7.o.c f2) (fun hx=> hG5a _ hx rfl);have g3:=hk8.cell (K7.o.c f3) (fun hx=> hG5a _ hx rfl);have g4:=hk8.cell (K7.o.c f4) (fun hx=> hG5a _ hx rfl);have g5:=hk8.cell (K7.o.c f5) (fun hx=> hG5a _ hx rfl);have g6:=hk8.cell (K7.o.c f6) (fun hx=> hG5a _ hx rfl);have g7:=hk8.cell (K7.o.c f7) (fun hx=> hG5a _ hx rfl);clear hsl hk8 ha hne hB8 hG5a;refine hK.out _ _ (⟨g0,g1,g2,g3,g4,g5,g6,g7⟩) (fun hHeld=> ?_);clear hK K;try go_frame
      refine tk 6 ?_;simp only [sv];obtain ⟨b0,b1,b2,b3,b4,b5,b6,b7⟩:=row_cells HB8.o;have bf:=row_frozen HB8.o;refine j6 7 fun K hK=> ?_;go_simp;have KS:=gi ((Keeps.refl [B] w8).setCell (p:=⟨B,2,none⟩) (.inl (by simp)) (sv a2 (k + 1) c2));clear b0 b1 b2 b3 b4 b5 b6 b7 bf;refine hK.out _ _ (⟨KS.o.cell g0 (by simp;exact hGB),KS.o.cell g1 (by simp;exact hGB),KS.o.cell g2 (by simp;exact hGB),KS.o.cell g3 (by simp;exact hGB),KS.o.cell g4 (by simp;exact hGB),KS.o.cell g5 (by simp;exact hGB),KS.o.cell g6 (by simp;exact hGB),KS.o.cell g7 (by simp;exact hGB)⟩) (fun hHeld=> ?_);clear hK K;try go_frame
      refine wd ?_;clear f0 f1 f2 f3 f4 f5 f6 f7 g0 g1 g2 g3 g4 g5 g6 g7 hHeld;go_wp2;go_roundw
      case rel=> exact ⟨k + 1,by omega,by go_num,HST.o⟩
      case measure=> simp [intOf];omega
     ·go_simp;have K7:=gi (K6.o.trans (Keeps.a1 w6 (.cells #[H J op9,M sa9 set9.length sc9,M ka9 kids9.length kc9,H J mn9,H J mx9,H J mode9,H J n9,F neg9] 26)));refine hK.out _ _ (kz.o _ K7.o) fun hHeld=> ?_;clear hK K;try go_frame
      have HBL:=gi (K7.o.h HR5.o);obtain ⟨b0,b1,b2,b3,b4,b5,b6,b7⟩:=row_cells HBL.o;refine j6 1 fun K hK=> ?_;go_simp;clear b0 b1 b2 b3 b4 b5 b6 b7;refine hK.out _ _ (kz.o _ K7.o) fun hHeld=> ?_;clear hK K;try go_frame
      refine j6 5 fun K hK=> ?_;refine oper_append_any (.tmp 20) (.tmp 23) 24 rfl 26 i0 _ 8 96 Tryz.underlying24 Hi.o Hz0.o Hz1.o Hz2.o rfl (by decide) a k c _ rfl (HV.o.sl.keep (K5.o.trans K7.o) (by simp)) (some ⟨w6.heap.size,0,none⟩) 1 1 (flatK [(.node op9 sa9 sc9 set9 ka9 kc9 kids9 mn9 mx9 mode9 n9 neg9:MRe)]) rfl rfl (fun _=> ⟨_,rfl,news_row w6 [H J op9,M sa9 set9.length sc9,M ka9 kids9.length kc9,H J mn9,H J mx9,H J mode9,H J n9,F neg9] 26⟩) (flatK_one _) (by omega) (by omega) ?_;intro a2 c2 w8 hsl hk8 ha;have hne:∀ x∈a.toList,B + 2≤x∧x < wr.heap.size:=fun x hx=> HV.o.sole.2 x (List.mem_append_right _ (List.mem_append_left _ hx));have hB8:=hk8.heap ((K7.o.h HR5.o)) (fun hx=> by have:=(hne B hx).1;omega);have HB8:=gi hB8;have HST:=gi (clone_step (m:=q0) HV.o hBw (by rw [MRe.trees_length];exact hlt) HTK.o K5.o K6.o QT.o QO.o QS.o QF.o (Keeps.a1 w6 (.cells #[H J op9,M sa9 set9.length sc9,M ka9 kids9.length kc9,H J mn9,H J mx9,H J mode9,H J n9,F neg9] 26)) (by rw [Q0.o];simpa [flatK] using hsl) hk8 ha);have hG5a:∀ x∈a.toList,x≠G5:=fun x hx h=> by have h1:=hne x hx;have h2:=HG5.o;omega
      have g0:=hk8.cell (K7.o.c f0) (fun hx=> hG5a _ hx rfl);have g1:=hk8.cell (K7.o.c f1) (fun hx=> hG5a _ hx rfl);have g2:=hk8.cell (K7.o.c f2) (fun hx=> hG5a _ hx rfl);have g3:=hk8.cell (K7.o.c f3) (fun hx=> hG5a _ hx rfl);have g4:=hk8.cell (K7.o.c f4) (fun hx=> hG5a _ hx rfl);have g5:=hk8.cell (K7.o.c f5) (fun hx=> hG5a _ hx rfl);have g6:=hk8.cell (K7.o.c f6) (fun hx=> hG5a _ hx rfl);have g7:=hk8.cell (K7.o.c f7) (fun hx=> hG5a _ hx rfl);clear hsl hk8 ha hne hB8 hG5a;refine hK.out _ _ (⟨g0,g1,g2,g3,g4,g5,g6,g7⟩) (fun hHeld=> ?_);clear hK K;try go_frame
      refine tk 6 ?_;simp only [sv];obtain ⟨b0,b1,b2,b3,b4,b5,b6,b7⟩:=row_cells HB8.o;have bf:=row_frozen HB8.o;refine j6 7 fun K hK=> ?_;go_simp;have KS:=gi ((Keeps.refl [B] w8).setCell (p:=⟨B,2,none⟩) (.inl (by simp)) (sv a2 (k + 1) c2));clear b0 b1 b2 b3 b4 b5 b6 b7 bf;refine hK.out _ _ (⟨KS.o.cell g0 (by simp;exact hGB),KS.o.cell g1 (by simp;exact hGB),KS.o.cell g2 (by simp;exact hGB),KS.o.cell g3 (by simp;exact hGB),KS.o.cell g4 (by simp;exact hGB),KS.o.cell g5 (by simp;exact hGB),KS.o.cell g6 (by simp;exact hGB),KS.o.cell g7 (by simp;exact hGB)⟩) (fun hHeld=> ?_);clear hK K;try go_frame
      refine wd ?_;clear f0 f1 f2 f3 f4 f5 f6 f7 g0 g1 g2 g3 g4 g5 g6 g7 hHeld;go_wp2;go_roundw
      case rel=> exact ⟨k + 1,by omega,by go_num,HST.o⟩
      case measure=> simp [intOf];omega
   ·obtain rfl:k=kids.length:=by omega
    have hrow:=hinv.row;simp only [sv] at hrow;obtain ⟨b0,b1,b2,b3,b4,b5,b6,b7⟩:=row_cells hrow;have hzr:=hinv.zero;obtain ⟨z0,z1,z2,z3,z4,z5,z6,z7,zf⟩:=zero_cells hzr;obtain ⟨ms,hms⟩:∃ ms:MRe,ms=.node op sa' sc' set (a.map fun g=> ⟨g,0,none⟩) c ks mn mx mode n neg:=⟨_,rfl⟩;have hkl:ks.length=kids.length:=hinv.len;have hnb:kids.length=0→a=none:=hinv.none_;have hblk:ms.blocks=blockIf set.length sa' ++ (a.toList ++ MRe.blocksL ks):=by
     rw [hms];simp only [MRe.blocks];rw [blockIf_sl (fun h=> hnb (by omega))]
    have hkbl:ms.kb=a.toList ++ MRe.kbL ks:=by
     rw [hms];simp only [MRe.kb];rw [blockIf_sl (fun h=> hnb (by omega))]
    have htr:ms.tree=MRe.tree (.node op sa sc set ka kc kids mn mx mode n neg):=by
     rw [hms];simp only [MRe.tree];rw [hinv.tr,show (MRe.trees kids).take kids.length=MRe.trees kids by rw [←MRe.trees_length kids,List.take_length]]
    have hok:ms.OK wr:=by rw [hms];exact .of hinv.sp ⟨NodesIn.of_sl hinv.sl,hinv.ok⟩
    have hsole:=hinv.sole;rw [←hblk] at hsole;have hsoft:=hinv.soft;rw [←hkbl] at hsoft;have hBw2:w.heap.size=B:=HBE.o.symm;have k8:=set8_keeps wr (B + 1) (H J op) (M sa' set.length sc') (M (a.map fun g=> ⟨g,0,none⟩) kids.length c) (H J mn) (H J mx) (H J mode) (H J n) (F neg);have HR2:=gi (set8_heap hzr (H J op) (M sa' set.length sc') (M (a.map fun g=> ⟨g,0,none⟩) kids.length c) (H J mn) (H J mx) (H J mode) (H J n) (F neg));have hne:∀ b∈ms.blocks,b ∉ [B + 1]:=fun b hb=> by have:=(hsole.2 b hb).1;simp;omega
    have HPOST:=gi (show CloneA w (MRe.tree (.node op sa sc set ka kc kids mn mx mode n neg)) (.returned ms.val) (set8 wr (B + 1) (H J op) (M sa' set.length sc') (M (a.map fun g=> ⟨g,0,none⟩) kids.length c) (H J mn) (H J mx) (H J mode) (H J n) (F neg)) from
     ⟨ms,rfl,htr,hok.keepS k8 hne,hinv.keep.after k8 (by intro x hx;simp at hx;subst hx;exact .inr (by omega)),⟨hsole.1,fun b hb=> by have h1:=hsole.2 b hb;have h2:=k8.size;omega⟩,hsoft.keepS k8 (fun b hb=> (hsole.2 b (MRe.kb_sub ms b hb)).2) (fun b hb=> hne b (MRe.kb_sub ms b hb))⟩)
    have HMV:=gi (show ms.val=.agg #[H J op,M sa' set.length sc',M (a.map fun g=> ⟨g,0,none⟩) kids.length c,H J mn,H J mx,H J mode,H J n,F neg] by rw [hms,←hkl];rfl);clear hrow hzr hms hkl hnb hblk hkbl htr hok hsole hsoft hBw2 k8 hne hinv;go_wp2;refine rc HR2.o ?_;have h:=HPOST.o;rw [HMV.o] at h;exact h
end Go.Proofs.YtjnlkjlbejelgaaGreat
