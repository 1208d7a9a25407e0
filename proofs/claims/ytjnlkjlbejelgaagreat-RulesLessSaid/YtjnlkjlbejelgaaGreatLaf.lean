/- Part 6 of the proof. No condition: every lemma says its own. -/
import Derived.Deep.RegionWith
import Derived.Test.YtjnlkjlbejelgaaGreatLae
namespace Go.Proofs.YtjnlkjlbejelgaaGreat
open Go.RowKit
open Go.Value renaming int→H,slice→M,bool→F
open Go.IntKind renaming i64→J
set_option maxRecDepth 100000
set_option maxHeartbeats 16000000
theorem nbO_true {p:Tree→Tree→Bool}:∀ {l:List Tree} {k:Nat},nbO p l=some k→p (l.getD k .nil) (l.getD (k + 1) .nil)=true
 | [],k,h=> by simp [nbO] at h
 | [x],k,h=> by simp [nbO] at h
 | x::y::r,k,h=> by
  rw [nbO] at h
  split at h
  ·rename_i h1;cases h;simpa using h1
  ·cases hn:nbO p (y::r) with
   | none=> rw [hn] at h;simp at h
   | some i=>
    rw [hn] at h;simp at h;subst h
    have:=nbO_true hn
    simpa using this
def mkT (op:Int) (kids:List Tree):Tree:=.node op [] kids 0 0 0 0 false
theorem alloc_drew_heap (Y:World) (o:Obj):(Y.alloc o).drew.heap[Y.heap.size]? =some o:=heap_alloc_new Y o
theorem zero_cells2 {w:World} {g T:Nat} (h:w.heap[g]? =some (.cells #[H J 0,M none 0 0,M none 0 0,H J 0,H J 0,H J 0,H J 0,F false] T (0,0))):
  (w.cell? ⟨g,0,none⟩=some (H J 0)∧w.cell? ⟨g,1,none⟩=some (M none 0 0)∧w.cell? ⟨g,2,none⟩=some (M none 0 0)∧w.cell? ⟨g,3,none⟩=some (H J 0)∧w.cell? ⟨g,4,none⟩=some (H J 0)∧w.cell? ⟨g,5,none⟩=some (H J 0)∧w.cell? ⟨g,6,none⟩=some (H J 0)∧w.cell? ⟨g,7,none⟩=some (F false))∧(∀ o,w.frozen? ⟨g,o,none⟩=false)∧(∀ ob o,(w.alloc ob).frozen? ⟨g,o,none⟩=false)∧(∀ ob,(w.alloc ob).cell? ⟨g,0,none⟩=some (H J 0))∧(∀ ob,(w.alloc ob).cell? ⟨g,1,none⟩=some (M none 0 0))∧(∀ ob,(w.alloc ob).cell? ⟨g,2,none⟩=some (M none 0 0))∧(∀ ob,(w.alloc ob).cell? ⟨g,3,none⟩=some (H J 0))∧(∀ ob,(w.alloc ob).cell? ⟨g,4,none⟩=some (H J 0))∧(∀ ob,(w.alloc ob).cell? ⟨g,5,none⟩=some (H J 0))∧(∀ ob,(w.alloc ob).cell? ⟨g,6,none⟩=some (H J 0))∧(∀ ob,(w.alloc ob).cell? ⟨g,7,none⟩=some (F false)):=by
 have h2:∀ ob,(w.alloc ob).heap[g]? =some (.cells #[H J 0,M none 0 0,M none 0 0,H J 0,H J 0,H J 0,H J 0,F false] T (0,0)):=fun ob=> (Keeps.a1 w ob).h h;refine ⟨by simp [World.cell?,h],by simp [World.frozen?,h],fun ob o=> ?_,?_,?_,?_,?_,?_,?_,?_,?_⟩
 ·unfold World.frozen?;rw [h2];simp
 all_goals (intro ob;unfold World.cell?;rw [h2];rfl)
def RestAt (Y:World) (src:List Nat) (lo:Nat) (t:Tree) (v:Value) (wx:World):Prop:=∃ (g:Nat) (r:MRe),v=.pointer (some ⟨g,0,none⟩)∧At8 wx g 0 r∧r.OK wx∧r.tree=t∧Keeps [] Y wx∧lo≤g∧From lo src r.blocks
theorem rest_any {Y w4 w5 wx:World} {src:List Nat} {op:Int} {lo g G T T':Nat} {s1 s2:MRe} {cs:Array Value} {t1 t2:Tree} (k4:Keeps [] Y w4) (k5:Keeps [] w4 w5) (o1:s1.OK w4) (o2:s2.OK w5)
  (l1:∀ q∈s1.blocks,q∈src) (l2:∀ q∈s2.blocks,q∈src) (hlt:∀ q∈src,q < Y.heap.size) (hlo:lo≤Y.heap.size) (e1:s1.tree=t1) (e2:s2.tree=t2)
  (hG:wx.heap[G]? =some (.cells cs T (0,0))) (hcs:cs.toList=flatK [s1,s2]) (hg:wx.heap[g]? =some (.cells #[H J op,M none 0 0,M (some ⟨G,0,none⟩) 2 2,H J 0,H J 0,H J 0,H J 0,F false] T' (0,0)))
  (hk:Keeps [g] w5 wx) (hgl:Y.heap.size≤g) (hGl:Y.heap.size≤G):RestAt Y src lo (mkT op [t1,t2]) (.pointer (some ⟨g,0,none⟩)) wx:=by
 subst e1;subst e2;refine ⟨g,.node op none 0 [] (some ⟨G,0,none⟩) 2 [s1,s2] 0 0 0 0 false,rfl,At8.of_block hg rfl,.of (SpansIn.nil _) ⟨NodesIn.of_block hG hcs (by simp [maxLen]),?_⟩,rfl,?_,by omega,?_⟩
 ·intro x hx;simp only [List.mem_cons,List.not_mem_nil,or_false] at hx
  rcases hx with rfl | rfl
  ·exact (o1.keep k5).keepS hk fun b hb=> by have:=hlt b (l1 b hb);simp;omega
  ·exact o2.keepS hk fun b hb=> by have:=hlt b (l2 b hb);simp;omega
 ·exact (k4.trans k5).after hk (by intro x hx;simp at hx;subst hx;exact .inr hgl)
 ·intro b hb;simp only [MRe.blocks,MRe.blocksL,List.mem_append,List.not_mem_nil,or_false] at hb
  rcases hb with hb | hb | hb | hb
  ·simp [blockIf] at hb
  ·simp [blockIf] at hb;subst hb;exact .inr (by omega)
  ·exact .inl (l1 b hb)
  ·exact .inl (l2 b hb)
structure RestHyp (Y w4 w5:World) (src:List Nat) (lo:Nat) (s1 s2:MRe) (t1 t2:Tree):Prop where
 k4:Keeps [] Y w4
 k5:Keeps [] w4 w5
 o1:s1.OK w4
 o2:s2.OK w5
 l1:∀ q∈s1.blocks,q∈src
 l2:∀ q∈s2.blocks,q∈src
 hlt:∀ q∈src,q < Y.heap.size
 hlo:lo≤Y.heap.size
 e1:s1.tree=t1
 e2:s2.tree=t2
theorem rest_A {Y w4 w5:World} {src:List Nat} {op:Int} {lo T T':Nat} {s1 s2:MRe} {t1 t2:Tree} (h:RestHyp Y w4 w5 src lo s1 s2 t1 t2) (cs:Array Value) (hcs:cs.toList=flatK [s1,s2]):
  RestAt Y src lo (mkT op [t1,t2]) (.pointer (some ⟨w5.heap.size + 1,0,none⟩)) ((w5.alloc (.cells cs T)).alloc (.cells #[H J op,M none 0 0,M (some ⟨w5.heap.size,0,none⟩) 2 2,H J 0,H J 0,H J 0,H J 0,F false] T')):=by
 have hs4:=h.k4.size;have hs5:=h.k5.size;exact rest_any h.k4 h.k5 h.o1 h.o2 h.l1 h.l2 h.hlt h.hlo h.e1 h.e2 ((Keeps.a1 _ _).heap (heap_alloc_new w5 _) (by simp)) hcs (heap_alloc2_new w5 _ _) ((Keeps.a2 w5 _ _).mono (by simp)) (by omega) (by omega)
theorem rest_A' {Y w4 w5:World} {src:List Nat} {op:Int} {lo T T':Nat} {s1 s2:MRe} {t1 t2:Tree} (h:RestHyp Y w4 w5 src lo s1 s2 t1 t2) (cs:Array Value) (hcs:cs.toList=flatK [s1,s2]):
  RestAt Y src lo (mkT op [t1,t2]) (.pointer (some ⟨w5.heap.size,0,none⟩)) ((w5.alloc (.cells #[H J op,M none 0 0,M (some ⟨w5.heap.size + 1,0,none⟩) 2 2,H J 0,H J 0,H J 0,H J 0,F false] T')).alloc (.cells cs T)):=by
 have hs4:=h.k4.size;have hs5:=h.k5.size;exact rest_any h.k4 h.k5 h.o1 h.o2 h.l1 h.l2 h.hlt h.hlo h.e1 h.e2 (heap_alloc2_new w5 _ _) hcs ((Keeps.a1 _ _).heap (heap_alloc_new w5 _) (by simp)) ((Keeps.a2 w5 _ _).mono (by simp)) (by omega) (by omega)
theorem rest_B {Y w4 w5:World} {src:List Nat} {op:Int} {lo T T' g:Nat} {s1 s2:MRe} {t1 t2:Tree} (h:RestHyp Y w4 w5 src lo s1 s2 t1 t2) (cs:Array Value) (hcs:cs.toList=flatK [s1,s2])
  (hz:w5.heap[g]? =some (.cells #[H J 0,M none 0 0,M none 0 0,H J 0,H J 0,H J 0,H J 0,F false] T' (0,0))) (hg:Y.heap.size≤g):
  RestAt Y src lo (mkT op [t1,t2]) (.pointer (some ⟨g,0,none⟩)) (set8 (w5.alloc (.cells cs T)) g (H J op) (M none 0 0) (M (some ⟨w5.heap.size,0,none⟩) 2 2) (H J 0) (H J 0) (H J 0) (H J 0) (F false)):=by
 have hs4:=h.k4.size;have hs5:=h.k5.size;have hlt:=lt_of_block hz;exact rest_any h.k4 h.k5 h.o1 h.o2 h.l1 h.l2 h.hlt h.hlo h.e1 h.e2 ((set8_keeps _ _ _ _ _ _ _ _ _ _).heap (heap_alloc_new w5 _) (by simp;omega)) hcs (set8_heap ((Keeps.a1 w5 _).h hz) _ _ _ _ _ _ _ _) (((Keeps.a1 w5 _).mono (by simp)).trans (set8_keeps _ _ _ _ _ _ _ _ _ _)) (by omega) (by omega)
theorem newkid_in {W:World} {op:Int} {T T':Nat} {s1 s2:MRe} (h1:s1.OK W) (h2:s2.OK W) (cs:Array Value) (hcs:cs.toList=flatK [s1,s2]):
  KidsIn ((W.alloc (.cells cs T)).alloc (.cells #[H J op,M none 0 0,M (some ⟨W.heap.size,0,none⟩) 2 2,H J 0,H J 0,H J 0,H J 0,F false] T')).drew (some ⟨W.heap.size + 1,0,none⟩) 1 [.node op none 0 [] (some ⟨W.heap.size,0,none⟩) 2 [s1,s2] 0 0 0 0 false]:=by
 have kk:Keeps [] W ((W.alloc (.cells cs T)).alloc (.cells #[H J op,M none 0 0,M (some ⟨W.heap.size,0,none⟩) 2 2,H J 0,H J 0,H J 0,H J 0,F false] T')).drew:=(Keeps.a2 W _ _).drew;refine ⟨NodesIn.of_block (kids:=[.node op none 0 [] (some ⟨W.heap.size,0,none⟩) 2 [s1,s2] 0 0 0 0 false]) (w:=((W.alloc (.cells cs T)).alloc (.cells #[H J op,M none 0 0,M (some ⟨W.heap.size,0,none⟩) 2 2,H J 0,H J 0,H J 0,H J 0,F false] T')).drew) (heap_alloc2_new W _ _) rfl (by simp [maxLen]),fun k hk=> ?_⟩;simp only [List.mem_cons,List.not_mem_nil,or_false] at hk;subst hk;refine .of (SpansIn.nil _) ⟨NodesIn.of_block (w:=((W.alloc (.cells cs T)).alloc (.cells #[H J op,M none 0 0,M (some ⟨W.heap.size,0,none⟩) 2 2,H J 0,H J 0,H J 0,H J 0,F false] T')).drew) ((Keeps.a1 _ _).heap (heap_alloc_new W _) (by simp)) hcs (by simp [maxLen]),fun x hx=> ?_⟩;simp only [List.mem_cons,List.not_mem_nil,or_false] at hx
 rcases hx with rfl | rfl
 ·exact h1.keep kk
 ·exact h2.keep kk
theorem ruleZ (w:World) (m:MRe) (T:Nat):∃ X:World,X=(w.alloc (.cells m.row.toArray T)).alloc (.cells #[H J 0,M none 0 0,M none 0 0,H J 0,H J 0,H J 0,H J 0,F false] T)∧At8 X w.heap.size 0 m∧X.heap[w.heap.size + 1]? =some (.cells #[H J 0,M none 0 0,M none 0 0,H J 0,H J 0,H J 0,H J 0,F false] T (0,0))∧w.heap.size + 2≤X.heap.size∧Keeps [] w X:=
 ⟨_,rfl,(boxZ w m T).1,(boxZ w m T).2.1,(boxZ w m T).2.2,Keeps.a2 _ _ _⟩
theorem pre0 (w:World) (op:Int) (sa:Option Addr) (sc:Nat) (set:List (Int × Int)) (ka:Option Addr) (kc:Nat) (kids:List MRe) (mn mx mode n:Int) (neg:Bool):∃ (B:Nat) (X:World),Hd (B=w.heap.size)∧Hd (X=(w.alloc (.cells #[H J op,M sa set.length sc,M ka kids.length kc,H J mn,H J mx,H J mode,H J n,F neg] 26)).alloc (.cells #[H J 0,M none 0 0,M none 0 0,H J 0,H J 0,H J 0,H J 0,F false] 26))∧Hd (At8 X B 0 (.node op sa sc set ka kc kids mn mx mode n neg))∧Hd (X.heap[B + 1]? =some (.cells #[H J 0,M none 0 0,M none 0 0,H J 0,H J 0,H J 0,H J 0,F false] 26 (0,0)))∧B + 2≤X.heap.size∧Hd (Keeps [] w X):=by
 obtain ⟨X,hXe,hb8,hz,hsz,hkX⟩:=ruleZ w (.node op sa sc set ka kc kids mn mx mode n neg) 26;exact ⟨_,X,⟨rfl⟩,⟨hXe⟩,⟨hb8⟩,⟨hz⟩,hsz,⟨hkX⟩⟩
def RulePost (w:World) (src:List Nat) (o:Option Tree) (e:Ending) (w':World):Prop:=
 match o with
 | none=> e=.returned (.tuple #[.agg #[H J 0,M none 0 0,M none 0 0,H J 0,H J 0,H J 0,H J 0,F false],F false])∧Keeps [] w w'
 | some t=> ∃ r:MRe,e=.returned (.tuple #[r.val,F true])∧r.tree=t∧r.OK w'∧Keeps [] w w'∧From w.heap.size src r.blocks
theorem RulePost.of_none {w:World} {src:List Nat} {o:Option Tree} {e:Ending} {w':World} (h:o=none) (he:e=.returned (.tuple #[.agg #[H J 0,M none 0 0,M none 0 0,H J 0,H J 0,H J 0,H J 0,F false],F false])) (hk:Keeps [] w w'):RulePost w src o e w':=by subst h;exact ⟨he,hk⟩
theorem RulePost.of_some {w:World} {src:List Nat} {o:Option Tree} {e:Ending} {w':World} (r:MRe) (h:o=some r.tree) (he:e=.returned (.tuple #[r.val,F true])) (hr:r.OK w') (hk:Keeps [] w w') (hb:From w.heap.size src r.blocks):RulePost w src o e w':=by subst h;exact ⟨r,he,rfl,hr,hk,hb⟩
def headR (t:Tree):Option Tree:=(pairO headP 3 t).map fun i=> swapT t.op t.kids i (i + 2)
 [mkT 2 [(t.kids.getD i .nil).kids.getD 0 .nil,mkT 3 [naryT 2 ((t.kids.getD i .nil).kids.drop 1),naryT 2 ((t.kids.getD (i + 1) .nil).kids.drop 1)]]]
theorem pairO_some {p:Tree→Tree→Bool} {o:Int} {t:Tree} {i:Nat} (h:pairO p o t=some i):t.op=o∧i + 1 < t.kids.length∧p (t.kids.getD i .nil) (t.kids.getD (i + 1) .nil)=true:=by
 unfold pairO at h
 split at h
 ·exact ⟨by assumption,nbO_lt h,nbO_true h⟩
 ·cases h
theorem head_any (m:MRe) (w:World) (k1:m.OK w) (f1:m.tree.WF) (hb:m.tree.bulk≤100000):
  Calls Tryz.prog 81 #[m.val] w (RulePost w m.blocks (headR m.tree)):=by
 have henter:Enters 119:=enters_of Tryz.func119 (by kernel_rfl) rfl;obtain ⟨m0,hm0⟩:∃ m0,m0=m:=⟨_,rfl⟩;have HP:=gi (fun (W:World) (hW:Keeps [] w W)=> pair_any 119 #[] headP 3 m W (Keeps [] W) (fun _=> Keeps [] W) henter (Keeps.refl _ _) (fun V hV=> k1.keep (hW.trans hV)) (fun _ V hV=> k1.keep (hW.trans hV)) (fun V hV=> hV.drew) (fun V o hV=> hV.alloc o)
  (testOK_of fun a ha b hb V hV=> by
   cases m with
   | node op sa sc set ka kc kids mn mx mode n neg=> exact head1_any a b V ((k1.keep (hW.trans hV)).kid ha) ((k1.keep (hW.trans hV)).kid hb) (wf_kid f1 ha) (wf_kid f1 hb)))
 rw [←hm0] at k1 f1 hb ⊢;have HM:=gi hm0;clear hm0;obtain ⟨op,sa,sc,set,ka,kc,kids,mn,mx,mode,n,neg⟩:=m;have hbx:=boxZ w (.node op sa sc set ka kc kids mn mx mode n neg) 26;have hkX:=Keeps.a2 w (.cells #[H J op,M sa set.length sc,M ka kids.length kc,H J mn,H J mx,H J mode,H J n,F neg] 26) (.cells #[H J 0,M none 0 0,M none 0 0,H J 0,H J 0,H J 0,H J 0,F false] 26);have hval:m0.val=.agg #[H J op,M sa set.length sc,M ka kids.length kc,H J mn,H J mx,H J mode,H J n,F neg]:=by rw [HM.o];rfl
 rw [hval];simp only [MRe.val] at HP;rw [←HM.o] at HP
 cases hpo:pairO headP 3 m0.tree with
 | none=>
  have hR:headR m0.tree=none:=by unfold headR;rw [hpo];rfl
  rw [hpo] at HP;have HR:=gi hR;obtain ⟨hb8,hz,hsz⟩:=hbx;obtain ⟨c0,c1,c2,c3,c4,c5,c6,c7⟩:=hb8.cells0;simp only [MRe.row] at c0 c1 c2 c3 c4 c5 c6 c7 hz;obtain ⟨B,hBe⟩:∃ B,B=w.heap.size:=⟨_,rfl⟩;rw [←hBe] at c0 c1 c2 c3 c4 c5 c6 c7 hz;have HZ:=gi hz;have HKX:=gi hkX;clear hR hz hkX hb8 hsz hval k1 f1 hb henter hpo;go_enter Tryz.func81,Tryz.ntmps81
  go_upto_region 1 with fail
  rw [←hBe]
  generalize (w.alloc (.cells #[H J op,M sa set.length sc,M ka kids.length kc,H J mn,H J mx,H J mode,H J n,F neg] 26)).alloc (.cells #[H J 0,M none 0 0,M none 0 0,H J 0,H J 0,H J 0,H J 0,F false] 26)=X at *
  have HBE:=gi hBe;clear hBe;go_wp2_with fail
  refine Calls.mono (HP.o X HKX.o) ?_;intro e w2 hor;obtain ⟨⟨x,rfl⟩,hk2⟩:=hor;obtain ⟨z0,z1,z2,z3,z4,z5,z6,z7,zf⟩:=zero_cells (hk2.h HZ.o);have HR2:=gi (set8_heap (hk2.h HZ.o) (H J 0) (M none 0 0) (M none 0 0) (H J 0) (H J 0) (H J 0) (H J 0) (F false));have HK2:=gi ((HKX.o.trans hk2).after (set8_keeps w2 (B + 1) (H J 0) (M none 0 0) (M none 0 0) (H J 0) (H J 0) (H J 0) (H J 0) (F false)) (by intro x hx;simp at hx;subst hx;exact .inr (by rw [HBE.o];omega)));clear hk2 c0 c1 c2 c3 c4 c5 c6 c7;go_wp2;refine rt HR2.o ?_;exact RulePost.of_none HR.o rfl HK2.o
 | some i=>
  obtain ⟨e1,e2,e3⟩:=pairO_some hpo;have hR:headR m0.tree=some (swapT m0.tree.op m0.tree.kids i (i + 2) [mkT 2 [(m0.tree.kids.getD i .nil).kids.getD 0 .nil,mkT 3 [naryT 2 ((m0.tree.kids.getD i .nil).kids.drop 1),naryT 2 ((m0.tree.kids.getD (i + 1) .nil).kids.drop 1)]]]):=by unfold headR;rw [hpo];rfl
  rw [hpo] at HP;have htk:m0.tree.kids=MRe.trees kids:=by rw [HM.o];rfl
  have hop:m0.tree.op=op:=by rw [HM.o];rfl
  rw [htk,hop] at hR;rw [htk] at e2 e3;rw [hop] at e1;subst e1;rw [MRe.trees_length] at e2;have hgi:(MRe.trees kids).getD i .nil=kids[i].tree:=by rw [List.getD_eq_getElem?_getD,List.getElem?_eq_getElem (by rw [MRe.trees_length];omega),Option.getD_some,trees_getElem]
  have hgj:(MRe.trees kids).getD (i + 1) .nil=kids[i + 1].tree:=by rw [List.getD_eq_getElem?_getD,List.getElem?_eq_getElem (by rw [MRe.trees_length];omega),Option.getD_some,trees_getElem]
  rw [hgi,hgj] at hR e3;have k1':=k1;have f1':=f1;rw [HM.o] at k1 f1;obtain ⟨b,off,rfl,hbb,hx⟩:=k1.nodes.kid (by omega);have ha:=hx i (by omega);have hb':=hx (i + 1) e2;have hao:=k1.kid (List.getElem_mem (n:=i) (by omega));have hbo:=k1.kid (List.getElem_mem (n:=i + 1) e2);have haf:=wf_kid f1 (List.getElem_mem (n:=i) (by omega));have hbf:=wf_kid f1 (List.getElem_mem (n:=i + 1) e2);have hcap:=k1.nodes.cap;have hle:=k1.nodes.le;unfold maxLen at hcap;have hablk:=blocks_kid (op:=3) (sa:=sa) (sc:=sc) (set:=set) (ka:=some ⟨b,off,none⟩) (kc:=kc) (mn:=mn) (mx:=mx) (mode:=mode) (n:=n) (neg:=neg) (List.getElem_mem (l:=kids) (n:=i) (by omega));have hbblk:=blocks_kid (op:=3) (sa:=sa) (sc:=sc) (set:=set) (ka:=some ⟨b,off,none⟩) (kc:=kc) (mn:=mn) (mx:=mx) (mode:=mode) (n:=n) (neg:=neg) (List.getElem_mem (l:=kids) (n:=i + 1) e2);rw [←HM.o] at hablk hbblk;clear hgi hgj hx
  generalize kids[i]=a at *
  generalize kids[i + 1]=bb at *
  obtain ⟨op1,sa1,sc1,set1,ka1,kc1,kids1,mn1,mx1,mode1,n1,neg1⟩:=a;obtain ⟨op2,sa2,sc2,set2,ka2,kc2,kids2,mn2,mx2,mode2,n2,neg2⟩:=bb;have ho1:op1=2:=by have h:=e3;simp only [headP,Bool.and_eq_true,beq_iff_eq] at h;exact h.1
  have ho2:op2=2:=by have h:=e3;simp only [headP,Bool.and_eq_true,beq_iff_eq] at h;exact h.2.1
  subst ho1;subst ho2;have l1:=(wf_node haf).htwo (.inl rfl);have l2:=(wf_node hbf).htwo (.inl rfl);obtain ⟨b1,o1,a0,rfl,hm0',ha0,haa,ha0o⟩:=hao.kids.head (by omega);obtain ⟨b2,o2,b0,rfl,_,_,_,_⟩:=hbo.kids.head (by omega);have hc1:=hao.nodes.cap;have hc2:=hbo.nodes.cap;have hl1:=hao.nodes.le;have hl2:=hbo.nodes.le;unfold maxLen at hc1 hc2;have hd1:KidsIn w (some ⟨b1,o1 + 8,none⟩) (kc1 - 1) (kids1.drop 1):=⟨by have h:=hao.nodes.drop 1 (by omega);rw [if_neg (by omega),Nat.one_mul] at h;exact h,fun x hx=> hao.kid (List.mem_of_mem_drop hx)⟩;have hd2:KidsIn w (some ⟨b2,o2 + 8,none⟩) (kc2 - 1) (kids2.drop 1):=⟨by have h:=hbo.nodes.drop 1 (by omega);rw [if_neg (by omega),Nat.one_mul] at h;exact h,fun x hx=> hbo.kid (List.mem_of_mem_drop hx)⟩;have hn1:=fun (W:World) (h:Keeps [] w W)=> nary_any 2 (some ⟨b1,o1 + 8,none⟩) (kc1 - 1) (kids1.drop 1) W (hd1.keep h);have hn2:=fun (W:World) (h:Keeps [] w W)=> nary_any 2 (some ⟨b2,o2 + 8,none⟩) (kc2 - 1) (kids2.drop 1) W (hd2.keep h);have hs1:∀ W:World,(Instr.sliceAt 24 (M (some ⟨b1,o1,none⟩) kids1.length kc1) (some (H J 1)) none none).run Tryz.prog W=.ok (M (some ⟨b1,o1 + 8,none⟩) (kids1.length - 1) (kc1 - 1)) W:=by
   intro W;have q1:(1:Int)≤kids1.length:=by omega
   have q2:¬ kc1=1:=by omega
   simp [go_sem,q1,q2]
  have hs2:∀ W:World,(Instr.sliceAt 24 (M (some ⟨b2,o2,none⟩) kids2.length kc2) (some (H J 1)) none none).run Tryz.prog W=.ok (M (some ⟨b2,o2 + 8,none⟩) (kids2.length - 1) (kc2 - 1)) W:=by
   intro W;have q1:(1:Int)≤kids2.length:=by omega
   have q2:¬ kc2=1:=by omega
   simp [go_sem,q1,q2]
  have hR3:headR m0.tree=some (swapT 3 (MRe.trees kids) i (i + 2) [mkT 2 [a0.tree,mkT 3 [naryT 2 (MRe.trees (kids1.drop 1)),naryT 2 (MRe.trees (kids2.drop 1))]]]):=by
   rw [hR];obtain ⟨r,hr⟩:=trees_head ha0;have e1:(MRe.tree (.node 2 sa1 sc1 set1 (some ⟨b1,o1,none⟩) kc1 kids1 mn1 mx1 mode1 n1 neg1)).kids=MRe.trees kids1:=rfl;have e2:(MRe.tree (.node 2 sa2 sc2 set2 (some ⟨b2,o2,none⟩) kc2 kids2 mn2 mx2 mode2 n2 neg2)).kids=MRe.trees kids2:=rfl;rw [e1,e2,MRe.trees_eq (kids1.drop 1),MRe.trees_eq (kids2.drop 1),List.map_drop,List.map_drop,←MRe.trees_eq,←MRe.trees_eq];rw [hr]
   rfl
  have HR:=gi hR3;have hblk0:∀ q∈a0.blocks,q∈m0.blocks:=fun q hq=> hablk q (blocks_kid hm0' q hq);have hblk1:∀ q∈blockIf (kids1.drop 1).length (some ⟨b1,o1 + 8,none⟩) ++ MRe.blocksL (kids1.drop 1),q∈m0.blocks:=fun q hq=> by
   apply hablk
   simp only [MRe.blocks,List.mem_append]
   rcases List.mem_append.1 hq with h | h
   ·refine .inr (.inl ?_);unfold blockIf at h ⊢;rw [if_neg (by omega)]
    split at h
    ·simp at h
    ·simpa using h
   ·obtain ⟨y,hy,hqy⟩:=MRe.blocksL_mem h;exact .inr (.inr (MRe.mem_blocksL (List.mem_of_mem_drop hy) hqy))
  have hblk2:∀ q∈blockIf (kids2.drop 1).length (some ⟨b2,o2 + 8,none⟩) ++ MRe.blocksL (kids2.drop 1),q∈m0.blocks:=fun q hq=> by
   apply hbblk
   simp only [MRe.blocks,List.mem_append]
   rcases List.mem_append.1 hq with h | h
   ·refine .inr (.inl ?_);unfold blockIf at h ⊢;rw [if_neg (by omega)]
    split at h
    ·simp at h
    ·simpa using h
   ·obtain ⟨y,hy,hqy⟩:=MRe.blocksL_mem h;exact .inr (.inr (MRe.mem_blocksL (List.mem_of_mem_drop hy) hqy))
  have hbk:m0.kids.length + 1≤1000000:=by
   rw [HM.o] at hb ⊢
   have:=(kids_bulk hb).1
   show kids.length + 1≤1000000
   omega
  have hsw:=fun (W:World) (h:Keeps [] w W) (la:Option Addr) (l:MRe) (hl:KidsIn W la 1 [l])=> swap_any m0 i (i + 2) la 1 [l] W (k1'.keep h) hl (by omega) (by rw [HM.o];show i + 2≤kids.length;omega) (by rw [HM.o];show 0 < kids.length;omega) hbk;rw [hval,hop,htk] at hsw;simp only [show ((i + 2:Nat):Int)=(i:Int) + 2 by omega,List.length_singleton] at hsw;have HSW:=gi hsw;have HB0:=gi hblk0;rw [List.length_drop] at hblk1 hblk2;have HB1:=gi hblk1;have HB2:=gi hblk2;have HA0:=gi ha0o;have HLT:=gi k1'.block_lt;rw [List.length_drop] at hn1 hn2;have HN1:=gi hn1;have HN2:=gi hn2;obtain ⟨hb8,hz,hsz⟩:=hbx;obtain ⟨c0,c1,c2,c3,c4,c5,c6,c7⟩:=hb8.cells0;simp only [MRe.row] at c0 c1 c2 c3 c4 c5 c6 c7 hz hsz hb8;have p2:=ha.node.c2;have r2:=hb'.node.c2;have hi0n:0 < kids1.length:=by omega
  have hi0i:(0:Int) < (kids1.length:Int):=by omega
  have hi0:(0:Int)≤(i:Int):=by omega
  have hi1:(i:Int) < (kids.length:Int):=by omega
  have hi2:(0:Int)≤(i:Int) + 1:=by omega
  have hi3:(i:Int) + 1 < (kids.length:Int):=by omega
  have hi4:((i:Int) + 1).toNat=i + 1:=by omega
  have hn0:i < kids.length:=by omega
  have hw0:IntKind.i64.wrap (i:Int)=(i:Int):=IntWalk.i64_in _ (by omega);have hw1:IntKind.i64.wrap ((i:Int) + 1)=(i:Int) + 1:=IntWalk.i64_in _ (by omega);have hw2:IntKind.i64.wrap ((i:Int) + 2)=(i:Int) + 2:=IntWalk.i64_in _ (by omega);obtain ⟨B,hBe⟩:∃ B,B=w.heap.size:=⟨_,rfl⟩;rw [←hBe] at c0 c1 c2 c3 c4 c5 c6 c7 hz hsz hb8;have HC:=gi hb8;have HZ:=gi hz;have HKX:=gi hkX;have hpX:=hkX.c p2;have hrX:=hkX.c r2;have HAA:=gi haa;obtain ⟨a00,ha00⟩:∃ a00,a00=a0:=⟨_,rfl⟩;rw [←ha00] at HR HB0 HA0 HAA;have HA00:=gi ha00;clear hR hR3 hz hkX hb8 hval k1 f1 hb henter hpo e2 e3 k1' f1' hb' ha hao hbo haf hbf hablk hbblk l1 l2 hm0' ha0 haa ha0o hc1 hc2 hl1 hl2 hd1 hd2 hn1 hn2 hblk0 hblk1 hblk2 hbk hsw p2 r2 htk hop ha00;go_enter Tryz.func81,Tryz.ntmps81
  go_upto_region 1 with fail
  rw [←hBe]
  generalize (w.alloc (.cells #[H J 3,M sa set.length sc,M (some ⟨b,off,none⟩) kids.length kc,H J mn,H J mx,H J mode,H J n,F neg] 26)).alloc (.cells #[H J 0,M none 0 0,M none 0 0,H J 0,H J 0,H J 0,H J 0,F false] 26)=X at *
  have HBE:=gi hBe;clear hBe;go_wp2_with fail
  refine Calls.mono (HP.o X HKX.o) ?_;intro e w2 hor;obtain ⟨rfl,hk2⟩:=hor;have x2:=hk2.c c2;have p2:=hk2.c hpX;have r2:=hk2.c hrX;have HK2:=gi hk2;clear hk2 c0 c1 c2 c3 c4 c5 c6 c7 hpX hrX HP;go_wp2
  go_quiet (fail)
  have HK3:=gi (HK2.o.drewN nq);clear x2 p2 r2 HK2
  generalize w2.drewN nq=Y at *
  have HKY:=gi (HKX.o.trans HK3.o);go_upto_region 5 with fail
  go_cut [8] (fun s8 wx=> ∃ W6,W6=wx∧RestAt Y m0.blocks (B + 2) (mkT 3 [naryT 2 (MRe.trees (kids1.drop 1)),naryT 2 (MRe.trees (kids2.drop 1))]) s8 wx)
  case first=>
   go_region_held3 (fun _=> True) (exact trivial)
    (first
     | (go_at_call_of 121 b1;with_reducible refine Calls.mono (HN1.o _ (HKY.o.trans (by first | exact (Keeps.refl [] Y).drew | exact (Keeps.a1 Y _).drew | exact ((Keeps.refl [] Y).drew).alloc _))) ?_;rintro e w4 ⟨s1,rfl,ht1,ho1,hk4,hbl1⟩;have K4:=gi (show Keeps [] Y w4 from Keeps.trans (by first | exact (Keeps.refl [] Y).drew | exact (Keeps.a1 Y _).drew) hk4);have H4:=gi hk4;have T1:=gi ht1;have O1:=gi ho1;have L1:=gi hbl1;obtain ⟨s10,hs10⟩:∃ s10,s10=s1:=⟨_,rfl⟩;rw [←hs10] at T1 O1 L1;have S1:=gi hs10;(try (with_reducible have ZC4:=gi (hk4.heap (alloc_drew_heap Y (.cells #[H J 0,M none 0 0,M none 0 0,H J 0,H J 0,H J 0,H J 0,F false] 26)) (by simp))));(try (with_reducible have z4:=zero_cells2 (hk4.heap (alloc_drew_heap Y (.cells #[H J 0,M none 0 0,M none 0 0,H J 0,H J 0,H J 0,H J 0,F false] 26)) (by simp))));clear ht1 ho1 hk4 hbl1 hs10;obtain ⟨op5,sa5,sc5,set5,ka5,kc5,kids5,mn5,mx5,mode5,n5,neg5⟩:=s1;simp only [MRe.val])
     | (go_at_call_of 121 b2;with_reducible refine Calls.mono (HN2.o _ (HKY.o.trans (by first | exact (K4.o.trans (Keeps.a1 w4 _)) | exact K4.o))) ?_;rintro e w5 ⟨s2,rfl,ht2,ho2,hk5,hbl2⟩;have K5:=gi (show Keeps [] w4 w5 from Keeps.trans (by first | exact Keeps.refl [] w4 | exact Keeps.a1 w4 _) hk5);have T2:=gi ht2;have O2:=gi ho2;have L2:=gi hbl2;obtain ⟨s20,hs20⟩:∃ s20,s20=s2:=⟨_,rfl⟩;rw [←hs20] at T2 O2 L2;have S2:=gi hs20;(try (have ZG:=gi (hk5.h ZC4.o)));(try (with_reducible have ZG:=gi (hk5.heap (heap_alloc_new w4 (.cells #[H J 0,M none 0 0,M none 0 0,H J 0,H J 0,H J 0,H J 0,F false] 26)) (by simp))));(try (with_reducible have z5:=zero_cells2 (hk5.heap (H4.o.heap (alloc_drew_heap Y (.cells #[H J 0,M none 0 0,M none 0 0,H J 0,H J 0,H J 0,H J 0,F false] 26)) (by simp)) (by simp))));(try (with_reducible have z5b:=zero_cells2 (hk5.heap (heap_alloc_new w4 (.cells #[H J 0,M none 0 0,M none 0 0,H J 0,H J 0,H J 0,H J 0,F false] 26)) (by simp))));clear ht2 ho2 hk5 hbl2 hs20;obtain ⟨op6,sa6,sc6,set6,ka6,kc6,kids6,mn6,mx6,mode6,n6,neg6⟩:=s2;simp only [MRe.val]))
   all_goals
    go_wp2;go_meet;have hrow:∀ z,z=(#[H J op5,M sa5 set5.length sc5,M ka5 kids5.length kc5,H J mn5,H J mx5,H J mode5,H J n5,F neg5,H J op6,M sa6 set6.length sc6,M ka6 kids6.length kc6,H J mn6,H J mx6,H J mode6,H J n6,F neg6]:Array Value)→z.toList=flatK [s10,s20]:=fun z hz=> by rw [hz,S1.o,S2.o];rfl
    have hH:RestHyp Y w4 w5 m0.blocks (B + 2) s10 s20 _ _:=⟨K4.o,K5.o,O1.o,O2.o,fun q hq=> HB1.o q (L1.o q hq),fun q hq=> HB2.o q (L2.o q hq),fun q hq=> Nat.lt_of_lt_of_le (HLT.o q hq) HKY.o.size,by have:=HK3.o.size;omega,T1.o,T2.o⟩;refine ⟨_,rfl,?_⟩
    with_reducible first
     | exact rest_A hH _ (hrow _ rfl)
     | exact rest_A' hH _ (hrow _ rfl)
     | exact rest_B hH _ (hrow _ rfl) ZG.o (Nat.le_refl _)
     | exact rest_B hH _ (hrow _ rfl) ZG.o K4.o.size
  case rest=>
   obtain ⟨W6,rfl,g,r,rfl,hat,hrok,hrt,hkr,hlo,hfr⟩:=hcut;have kXW:=HK3.o.trans hkr;have kwW:=HKX.o.trans kXW;have HKW:=gi kwW;have hZ6:=kXW.h HZ.o;obtain ⟨c0,c1,c2,c3,c4,c5,c6,c7⟩:=(HC.o.keep kXW).cells0;have haaW:=HAA.o.keep kwW;have ha0W:=HA0.o.keep kwW;have hBs:B + 2≤W6.heap.size:=Nat.le_trans hsz kXW.size;obtain ⟨r00,hr00⟩:∃ r00,r00=r:=⟨_,rfl⟩;rw [←hr00] at hrok hrt hfr;have hnk:=newkid_in (op:=2) (T:=26) (T':=26) ha0W hrok;obtain ⟨a01,ha01⟩:∃ a01,a01=a00:=⟨_,rfl⟩;rw [←ha01] at hnk;have HA01:=gi ha01;obtain ⟨op7,sa7,sc7,set7,ka7,kc7,kids7,mn7,mx7,mode7,n7,neg7⟩:=a00;obtain ⟨opy,say,scy,sety,kay,kcy,kidsy,mny,mxy,modey,ny,negy⟩:=r;obtain ⟨d0,d1,d2,d3,d4,d5,d6,d7⟩:=haaW.cellsO;obtain ⟨f0,f1,f2,f3,f4,f5,f6,f7⟩:=hat.cells0;have hnk2:=hnk #[H J op7,M sa7 set7.length sc7,M ka7 kids7.length kc7,H J mn7,H J mx7,H J mode7,H J n7,F neg7,H J opy,M say sety.length scy,M kay kidsy.length kcy,H J mny,H J mxy,H J modey,H J ny,F negy] (by rw [ha01,hr00];rfl);have kN:=(Keeps.a2 W6 (.cells #[H J op7,M sa7 set7.length sc7,M ka7 kids7.length kc7,H J mn7,H J mx7,H J mode7,H J n7,F neg7,H J opy,M say sety.length scy,M kay kidsy.length kcy,H J mny,H J mxy,H J modey,H J ny,F negy] 26) (.cells #[H J 2,M none 0 0,M (some ⟨W6.heap.size,0,none⟩) 2 2,H J 0,H J 0,H J 0,H J 0,F false] 26)).drew;have HS:=gi (HSW.o _ (kwW.trans kN) _ _ hnk2);have HZ6:=gi (kN.h hZ6);have HKN:=gi kN;have HRT:=gi hrt;have HFR:=gi hfr;have hb1B:¬ b1=B + 1:=by have h1:=World.block_lt_of_cell? w _ HAA.o.node.c0;have h2:=HBE.o;simp only at h1;omega
   have hgB:¬ g=B + 1:=by omega
   clear hnk hnk2 ha01 hr00 hrok hrt hfr hlo hkr kXW kwW hZ6 haaW ha0W kN hat HAA HA0;go_wp2
   go_region_held3 (fun w'=> (w'.cell? ⟨B,0,none⟩=some (H J 3)∧w'.cell? ⟨B,1,none⟩=some (M sa set.length sc)∧w'.cell? ⟨B,2,none⟩=some (M (some ⟨b,off,none⟩) kids.length kc)∧w'.cell? ⟨B,3,none⟩=some (H J mn)∧w'.cell? ⟨B,4,none⟩=some (H J mx)∧w'.cell? ⟨B,5,none⟩=some (H J mode)∧w'.cell? ⟨B,6,none⟩=some (H J n)∧w'.cell? ⟨B,7,none⟩=some (F neg))∧(w'.cell? ⟨b1,o1,none⟩=some (H J op7)∧w'.cell? ⟨b1,o1 + 1,none⟩=some (M sa7 set7.length sc7)∧w'.cell? ⟨b1,o1 + 2,none⟩=some (M ka7 kids7.length kc7)∧w'.cell? ⟨b1,o1 + 3,none⟩=some (H J mn7)∧w'.cell? ⟨b1,o1 + 4,none⟩=some (H J mx7)∧w'.cell? ⟨b1,o1 + 5,none⟩=some (H J mode7)∧w'.cell? ⟨b1,o1 + 6,none⟩=some (H J n7)∧w'.cell? ⟨b1,o1 + 7,none⟩=some (F neg7))∧(w'.cell? ⟨g,0,none⟩=some (H J opy)∧w'.cell? ⟨g,1,none⟩=some (M say sety.length scy)∧w'.cell? ⟨g,2,none⟩=some (M kay kidsy.length kcy)∧w'.cell? ⟨g,3,none⟩=some (H J mny)∧w'.cell? ⟨g,4,none⟩=some (H J mxy)∧w'.cell? ⟨g,5,none⟩=some (H J modey)∧w'.cell? ⟨g,6,none⟩=some (H J ny)∧w'.cell? ⟨g,7,none⟩=some (F negy)))
    (with_reducible first
     | exact ⟨⟨((Keeps.refl [] W6).drew).c c0,((Keeps.refl [] W6).drew).c c1,((Keeps.refl [] W6).drew).c c2,((Keeps.refl [] W6).drew).c c3,((Keeps.refl [] W6).drew).c c4,((Keeps.refl [] W6).drew).c c5,((Keeps.refl [] W6).drew).c c6,((Keeps.refl [] W6).drew).c c7⟩,⟨((Keeps.refl [] W6).drew).c d0,((Keeps.refl [] W6).drew).c d1,((Keeps.refl [] W6).drew).c d2,((Keeps.refl [] W6).drew).c d3,((Keeps.refl [] W6).drew).c d4,((Keeps.refl [] W6).drew).c d5,((Keeps.refl [] W6).drew).c d6,((Keeps.refl [] W6).drew).c d7⟩,⟨((Keeps.refl [] W6).drew).c f0,((Keeps.refl [] W6).drew).c f1,((Keeps.refl [] W6).drew).c f2,((Keeps.refl [] W6).drew).c f3,((Keeps.refl [] W6).drew).c f4,((Keeps.refl [] W6).drew).c f5,((Keeps.refl [] W6).drew).c f6,((Keeps.refl [] W6).drew).c f7⟩⟩
     | exact ⟨⟨((Keeps.a1 W6 _).drew).c c0,((Keeps.a1 W6 _).drew).c c1,((Keeps.a1 W6 _).drew).c c2,((Keeps.a1 W6 _).drew).c c3,((Keeps.a1 W6 _).drew).c c4,((Keeps.a1 W6 _).drew).c c5,((Keeps.a1 W6 _).drew).c c6,((Keeps.a1 W6 _).drew).c c7⟩,⟨((Keeps.a1 W6 _).drew).c d0,((Keeps.a1 W6 _).drew).c d1,((Keeps.a1 W6 _).drew).c d2,((Keeps.a1 W6 _).drew).c d3,((Keeps.a1 W6 _).drew).c d4,((Keeps.a1 W6 _).drew).c d5,((Keeps.a1 W6 _).drew).c d6,((Keeps.a1 W6 _).drew).c d7⟩,⟨((Keeps.a1 W6 _).drew).c f0,((Keeps.a1 W6 _).drew).c f1,((Keeps.a1 W6 _).drew).c f2,((Keeps.a1 W6 _).drew).c f3,((Keeps.a1 W6 _).drew).c f4,((Keeps.a1 W6 _).drew).c f5,((Keeps.a1 W6 _).drew).c f6,((Keeps.a1 W6 _).drew).c f7⟩⟩
     | exact ⟨⟨((Keeps.a2 W6 _ _).drew).c c0,((Keeps.a2 W6 _ _).drew).c c1,((Keeps.a2 W6 _ _).drew).c c2,((Keeps.a2 W6 _ _).drew).c c3,((Keeps.a2 W6 _ _).drew).c c4,((Keeps.a2 W6 _ _).drew).c c5,((Keeps.a2 W6 _ _).drew).c c6,((Keeps.a2 W6 _ _).drew).c c7⟩,⟨((Keeps.a2 W6 _ _).drew).c d0,((Keeps.a2 W6 _ _).drew).c d1,((Keeps.a2 W6 _ _).drew).c d2,((Keeps.a2 W6 _ _).drew).c d3,((Keeps.a2 W6 _ _).drew).c d4,((Keeps.a2 W6 _ _).drew).c d5,((Keeps.a2 W6 _ _).drew).c d6,((Keeps.a2 W6 _ _).drew).c d7⟩,⟨((Keeps.a2 W6 _ _).drew).c f0,((Keeps.a2 W6 _ _).drew).c f1,((Keeps.a2 W6 _ _).drew).c f2,((Keeps.a2 W6 _ _).drew).c f3,((Keeps.a2 W6 _ _).drew).c f4,((Keeps.a2 W6 _ _).drew).c f5,((Keeps.a2 W6 _ _).drew).c f6,((Keeps.a2 W6 _ _).drew).c f7⟩⟩
     | exact ⟨⟨E1.o.c c0,E1.o.c c1,E1.o.c c2,E1.o.c c3,E1.o.c c4,E1.o.c c5,E1.o.c c6,E1.o.c c7⟩,⟨E1.o.c d0,E1.o.c d1,E1.o.c d2,E1.o.c d3,E1.o.c d4,E1.o.c d5,E1.o.c d6,E1.o.c d7⟩,⟨E1.o.c f0,E1.o.c f1,E1.o.c f2,E1.o.c f3,E1.o.c f4,E1.o.c f5,E1.o.c f6,E1.o.c f7⟩⟩
     | exact ⟨⟨E2.o.c c0,E2.o.c c1,E2.o.c c2,E2.o.c c3,E2.o.c c4,E2.o.c c5,E2.o.c c6,E2.o.c c7⟩,⟨E2.o.cell d0 (by simp;exact hb1B),E2.o.cell d1 (by simp;exact hb1B),E2.o.cell d2 (by simp;exact hb1B),E2.o.cell d3 (by simp;exact hb1B),E2.o.cell d4 (by simp;exact hb1B),E2.o.cell d5 (by simp;exact hb1B),E2.o.cell d6 (by simp;exact hb1B),E2.o.cell d7 (by simp;exact hb1B)⟩,⟨E2.o.cell f0 (by simp;exact hgB),E2.o.cell f1 (by simp;exact hgB),E2.o.cell f2 (by simp;exact hgB),E2.o.cell f3 (by simp;exact hgB),E2.o.cell f4 (by simp;exact hgB),E2.o.cell f5 (by simp;exact hgB),E2.o.cell f6 (by simp;exact hgB),E2.o.cell f7 (by simp;exact hgB)⟩⟩
     | fail)
    (first
     | (go_at_call 114;with_reducible refine Calls.mono HS.o ?_;rintro e w7 ⟨q,rfl,hqt,hqo,hk7,hqf⟩;have E1:=gi (HKN.o.trans hk7);have HZ7:=gi (hk7.h HZ6.o);have QT:=gi hqt;have QO:=gi hqo;have QF:=gi hqf;obtain ⟨q0,hq0⟩:∃ q0,q0=q:=⟨_,rfl⟩;rw [←hq0] at QT QO QF;have Q0:=gi hq0;have zz:=zero_cells HZ7.o;clear hqt hqo hk7 hqf hq0;obtain ⟨op9,sa9,sc9,set9,ka9,kc9,kids9,mn9,mx9,mode9,n9,neg9⟩:=q;simp only [MRe.val];have E2:=gi (show Keeps [B + 1] W6 (set8 w7 (B + 1) (H J op9) (M sa9 set9.length sc9) (M ka9 kids9.length kc9) (H J mn9) (H J mx9) (H J mode9) (H J n9) (F neg9)) from (E1.o.mono (by simp)).trans (set8_keeps _ _ _ _ _ _ _ _ _ _))))
   have hbs:∀ x∈q0.blocks,(x∈m0.blocks∨B + 2≤x):=fun x hx=> by
    rcases QF.o x hx with h | h
    ·rcases List.mem_append.1 h with h | h
     ·exact .inl h
     ·simp only [MRe.blocks,MRe.blocksL,List.mem_append,List.not_mem_nil,or_false] at h
      rcases h with h | h | h | h
      ·simp [blockIf] at h
      ·simp [blockIf] at h;subst h;exact .inr hBs
      ·exact .inl (HB0.o x (by rw [←HA01.o];exact h))
      ·exact HFR.o x h
    ·have:=HKN.o.size
     exact .inr (by omega)
   have hwB:=HBE.o;have hnb:∀ x∈q0.blocks,x ∉ [B + 1]:=fun x hx=> by
    rcases hbs x hx with h | h
    ·have:=HLT.o x h;simp;omega
    ·simp;omega
   have hR:=gi (set8_heap HZ7.o (H J op9) (M sa9 set9.length sc9) (M ka9 kids9.length kc9) (H J mn9) (H J mx9) (H J mode9) (H J n9) (F neg9));have hok:=gi (QO.o.keepS (set8_keeps w7 (B + 1) (H J op9) (M sa9 set9.length sc9) (M ka9 kids9.length kc9) (H J mn9) (H J mx9) (H J mode9) (H J n9) (F neg9)) hnb);have hke:=gi (HKW.o.after E2.o (by intro x hx;simp at hx;subst hx;exact .inr (by omega)));have hfin:headR m0.tree=some q0.tree:=by
    rw [HR.o,QT.o,←HA01.o];simp only [MRe.trees,MRe.tree,HRT.o]
    rfl
   have HFIN:=gi hfin;have HBS:=gi (show From w.heap.size m0.blocks q0.blocks from fun x hx=> by
    rcases hbs x hx with h | h
    ·exact .inl h
    ·exact .inr (by omega))
   clear hbs hwB hnb hfin zz c0 c1 c2 c3 c4 c5 c6 c7 d0 d1 d2 d3 d4 d5 d6 d7 f0 f1 f2 f3 f4 f5 f6 f7;go_wp2;refine rt hR.o ?_;exact RulePost.of_some q0 HFIN.o (by rw [Q0.o];rfl) hok.o hke.o HBS.o
def tableCells:Array Value:=#[.string ⟨#[102,108,97,116]⟩,.func (Fn.func 77) #[] #[],.string ⟨#[109,101,114,103,101]⟩,.func (Fn.func 78) #[] #[],.string ⟨#[117,110,105,116]⟩,.func (Fn.func 79) #[] #[],.string ⟨#[116,119,105,110]⟩,.func (Fn.func 80) #[] #[],.string ⟨#[104,101,97,100]⟩,.func (Fn.func 81) #[] #[],.string ⟨#[116,97,105,108]⟩,.func (Fn.func 82) #[] #[],.string ⟨#[117,110,105,111,110]⟩,.func (Fn.func 83) #[] #[],.string ⟨#[111,110,99,101]⟩,.func (Fn.func 84) #[] #[],.string ⟨#[110,101,115,116]⟩,.func (Fn.func 85) #[] #[],.string ⟨#[115,116,97,114,115]⟩,.func (Fn.func 86) #[] #[],.string ⟨#[109,97,121,98,101]⟩,.func (Fn.func 87) #[] #[],.string ⟨#[112,108,117,115]⟩,.func (Fn.func 88) #[] #[],.string ⟨#[104,111,108,100]⟩,.func (Fn.func 89) #[] #[],.string ⟨#[112,101,101,108]⟩,.func (Fn.func 90) #[] #[],.string ⟨#[115,117,114,101]⟩,.func (Fn.func 91) #[] #[],.string ⟨#[108,111,111,115,101]⟩,.func (Fn.func 92) #[] #[],.string ⟨#[111,119,110]⟩,.func (Fn.func 93) #[] #[]]
def ruleFn (r:Nat):Nat:=[77,78,79,80,81,82,83,84,85,86,87,88,89,90,91,92,93].getD r 0
theorem table_any (w:World):Calls Tryz.prog 45 #[] w fun e w'=> ∃ g,e=.returned (M (some ⟨g,0,none⟩) 17 17)∧w'.heap[g]? =some (.cells tableCells 80 (0,0))∧Keeps [] w w'∧w.heap.size≤g:=by
 go_enter Tryz.func45,Tryz.ntmps45
 go_wp2;go_ret;exact ⟨w.heap.size,rfl,heap_alloc_new w _,Keeps.a1 w _,Nat.le_refl _⟩
theorem table_fn (r:Nat) (h:r < 17):tableCells[r * 2 + 1]? =some (.func (Fn.func (ruleFn r)) #[] #[]):=by
 obtain rfl | rfl | rfl | rfl | rfl | rfl | rfl | rfl | rfl | rfl | rfl | rfl | rfl | rfl | rfl | rfl | rfl:r=0∨r=1∨r=2∨r=3∨r=4∨r=5∨r=6∨r=7∨r=8∨r=9∨r=10∨r=11∨r=12∨r=13∨r=14∨r=15∨r=16:=by omega
 all_goals rfl
theorem table_cell {w:World} {g:Nat} (h:w.heap[g]? =some (.cells tableCells 80 (0,0))) (r:Nat) (hr:r < 17):w.cell? ⟨g,r * 2 + 1,none⟩=some (.func (Fn.func (ruleFn r)) #[] #[]):=by
 simp only [World.cell?,h];exact table_fn r hr
end Go.Proofs.YtjnlkjlbejelgaaGreat
