/- Part 34 of the proof. No condition: every lemma says its own. -/
import Derived.Test.YtjnlkjlbejelgaaGreatLbf
import Derived.Test.YtjnlkjlbejelgaaGreatLar
import Derived.Test.YtjnlkjlbejelgaaGreatLan
namespace Go.Proofs.YtjnlkjlbejelgaaGreat
open Go.RowKit
open Go.Value renaming int→H,slice→M,bool→F
open Go.IntKind renaming i64→J
set_option maxRecDepth 100000
set_option maxHeartbeats 16000000
theorem lit_from {lo G kc:Nat} {src:List Nat} {op mn mx mode n:Int} {neg:Bool} {ks:List MRe} (h:lo≤G) (hk:∀ k∈ks,From lo src k.blocks):From lo src (MRe.node op none 0 [] (some ⟨G,0,none⟩) kc ks mn mx mode n neg).blocks:=fun b hb=> by
 simp only [MRe.blocks,List.mem_append] at hb
 rcases hb with hb | hb | hb
 ·simp [blockIf] at hb
 ·unfold blockIf at hb
  split at hb
  ·cases hb
  ·simp at hb;subst hb;exact .inr h
 ·obtain ⟨y,hy,hq⟩:=MRe.blocksL_mem hb;exact hk y hy b hq
theorem lit_ok {W:World} {T:Nat} {op mn mx mode n:Int} {neg:Bool} {ks:List MRe} {cs:Array Value} (hk:∀ k∈ks,k.OK W) (hc:cs.toList=flatK ks) (hn:ks.length≤maxLen):
  MRe.OK (W.alloc (.cells cs T)) (.node op none 0 [] (some ⟨W.heap.size,0,none⟩) ks.length ks mn mx mode n neg):=
 .of (SpansIn.nil _) ⟨NodesIn.of_block (kids:=ks) (heap_alloc_new W _) hc hn,fun x hx=> (hk x hx).keep (Keeps.a1 _ _)⟩
theorem letterF_any (lo hi:Int) (w:World):Calls Tryz.prog 39 #[H J lo,H J hi] w (TreeFrom w [] (letT lo hi)):=by
 go_enter Tryz.func39,Tryz.ntmps39
 go_wp2;refine bodyPost_ret (results_cell_row rfl _ _ w.heap.size 26 #[H J 1,M (some ⟨w.heap.size + 1,0,none⟩) 1 1,M none 0 0,H J 0,H J 0,H J 0,H J 0,F false] (0,0) _ rfl ((Keeps.a1 _ _).heap (heap_alloc_new w _) (by simp)) Tryz.underlying26 rfl sizeRe) rfl ?_;refine ⟨.node 1 (some ⟨w.heap.size + 1,0,none⟩) 1 [(lo,hi)] none 0 [] 0 0 0 0 false,rfl,rfl,.of (SpansIn.of_block (set:=[(lo,hi)]) (heap_alloc2_new w _ _) rfl (by simp [maxLen])) (KidsIn.nil _),Keeps.a2 _ _ _,fun b hb=> .inr (by simp [MRe.blocks,MRe.blocksL,blockIf] at hb;omega)⟩
theorem lstarF_any (m:MRe) (w:World) (k1:m.OK w):Calls Tryz.prog 41 #[m.val] w (TreeFrom w m.blocks (starT m.tree)):=by
 obtain ⟨m0,hm0⟩:∃ m0,m0=m:=⟨_,rfl⟩;rw [←hm0] at k1 ⊢;have HM:=gi hm0;obtain ⟨op,sa,sc,set,ka,kc,kids,mn,mx,mode,n,neg⟩:=m;have hv:m0.val=.agg #[H J op,M sa set.length sc,M ka kids.length kc,H J mn,H J mx,H J mode,H J n,F neg]:=by rw [hm0];rfl
 rw [hv];have HK:=gi k1;clear hm0 hv k1;go_enter Tryz.func41,Tryz.ntmps41
 go_wp2;refine bodyPost_ret (results_cell_row rfl _ _ (w.heap.size + 1) 26 #[H J 4,M none 0 0,M (some ⟨w.heap.size + 2,0,none⟩) 1 1,H J 0,H J (-1),H J 0,H J 0,F false] (0,0) _ rfl ((Keeps.a1 _ _).heap (heap_alloc2_new w _ _) (by simp)) Tryz.underlying26 rfl sizeRe) rfl ?_;refine ⟨.node 4 none 0 [] (some ⟨w.heap.size + 2,0,none⟩) 1 [m0] 0 (-1) 0 0 false,rfl,rfl,.of (SpansIn.nil _) ⟨NodesIn.of_block (kids:=[m0]) (T:=26) (fz:=(0,0)) (cs:=#[H J op,M sa set.length sc,M ka kids.length kc,H J mn,H J mx,H J mode,H J n,F neg]) ?_ (by rw [HM.o];rfl) (by simp [maxLen]),fun x hx=> ?_⟩,Keeps.a3 _ _ _ _,lit_from (by omega) fun k hk=> by simp only [List.mem_cons,List.not_mem_nil,or_false] at hk;subst hk;exact From.refl _ _⟩
 ·have h:=heap_alloc_new ((w.alloc (.cells #[H J op,M sa set.length sc,M ka kids.length kc,H J mn,H J mx,H J mode,H J n,F neg] 26)).alloc (.cells #[H J 4,M none 0 0,M (some ⟨w.heap.size + 2,0,none⟩) 1 1,H J 0,H J (-1),H J 0,H J 0,F false] 26)) (.cells #[H J op,M sa set.length sc,M ka kids.length kc,H J mn,H J mx,H J mode,H J n,F neg] 26);rw [show ((w.alloc (.cells #[H J op,M sa set.length sc,M ka kids.length kc,H J mn,H J mx,H J mode,H J n,F neg] 26)).alloc (.cells #[H J 4,M none 0 0,M (some ⟨w.heap.size + 2,0,none⟩) 1 1,H J 0,H J (-1),H J 0,H J 0,F false] 26)).heap.size=w.heap.size + 2 by simp] at h;exact h
 ·simp only [List.mem_cons,List.not_mem_nil,or_false] at hx;subst hx;exact HK.o.keep (Keeps.a3 _ _ _ _)
theorem lcatF_any (m1 m2:MRe) (w:World) (k1:m1.OK w) (k2:m2.OK w):Calls Tryz.prog 40 #[m1.val,m2.val] w (TreeFrom w (m1.blocks ++ m2.blocks) (catT m1.tree m2.tree)):=by
 obtain ⟨n1',hn1⟩:∃ n1',n1'=m1:=⟨_,rfl⟩;obtain ⟨n2',hn2⟩:∃ n2',n2'=m2:=⟨_,rfl⟩;rw [←hn1] at k1 ⊢;rw [←hn2] at k2 ⊢;have H1:=gi hn1;have H2:=gi hn2;obtain ⟨op5,sa5,sc5,set5,ka5,kc5,kids5,mn5,mx5,mode5,n5,neg5⟩:=m1;obtain ⟨op6,sa6,sc6,set6,ka6,kc6,kids6,mn6,mx6,mode6,n6,neg6⟩:=m2;have hv1:n1'.val=.agg #[H J op5,M sa5 set5.length sc5,M ka5 kids5.length kc5,H J mn5,H J mx5,H J mode5,H J n5,F neg5]:=by rw [hn1];rfl
 have hv2:n2'.val=.agg #[H J op6,M sa6 set6.length sc6,M ka6 kids6.length kc6,H J mn6,H J mx6,H J mode6,H J n6,F neg6]:=by rw [hn2];rfl
 rw [hv1,hv2];have HK1:=gi k1;have HK2:=gi k2;clear hn1 hn2 hv1 hv2 k1 k2;go_enter Tryz.func40,Tryz.ntmps40
 go_wp2;refine bodyPost_ret (results_cell_row rfl _ _ (w.heap.size + 2) 26 #[H J 2,M none 0 0,M (some ⟨w.heap.size + 3,0,none⟩) 2 2,H J 0,H J 0,H J 0,H J 0,F false] (0,0) _ rfl ((Keeps.a1 _ _).heap ?_ (by simp)) Tryz.underlying26 rfl sizeRe) rfl ?_
 ·have h:=heap_alloc_new ((w.alloc (.cells #[H J op5,M sa5 set5.length sc5,M ka5 kids5.length kc5,H J mn5,H J mx5,H J mode5,H J n5,F neg5] 26)).alloc (.cells #[H J op6,M sa6 set6.length sc6,M ka6 kids6.length kc6,H J mn6,H J mx6,H J mode6,H J n6,F neg6] 26)) (.cells #[H J 2,M none 0 0,M (some ⟨w.heap.size + 3,0,none⟩) 2 2,H J 0,H J 0,H J 0,H J 0,F false] 26);rw [show ((w.alloc (.cells #[H J op5,M sa5 set5.length sc5,M ka5 kids5.length kc5,H J mn5,H J mx5,H J mode5,H J n5,F neg5] 26)).alloc (.cells #[H J op6,M sa6 set6.length sc6,M ka6 kids6.length kc6,H J mn6,H J mx6,H J mode6,H J n6,F neg6] 26)).heap.size=w.heap.size + 2 by simp] at h;exact h
 refine ⟨.node 2 none 0 [] (some ⟨w.heap.size + 3,0,none⟩) 2 [n1',n2'] 0 0 0 0 false,rfl,rfl,.of (SpansIn.nil _) ⟨NodesIn.of_block (kids:=[n1',n2']) (T:=26) (fz:=(0,0)) (cs:=#[H J op5,M sa5 set5.length sc5,M ka5 kids5.length kc5,H J mn5,H J mx5,H J mode5,H J n5,F neg5,H J op6,M sa6 set6.length sc6,M ka6 kids6.length kc6,H J mn6,H J mx6,H J mode6,H J n6,F neg6]) ?_ (by rw [H1.o,H2.o];rfl) (by simp [maxLen]),fun x hx=> ?_⟩,Keeps.a4 _ _ _ _ _,lit_from (by omega) fun k hk=> by
  simp only [List.mem_cons,List.not_mem_nil,or_false] at hk
  rcases hk with rfl | rfl
  ·exact From.of_mem fun b hb=> List.mem_append_left _ hb
  ·exact From.of_mem fun b hb=> List.mem_append_right _ hb⟩
 ·have h:=heap_alloc_new (((w.alloc (.cells #[H J op5,M sa5 set5.length sc5,M ka5 kids5.length kc5,H J mn5,H J mx5,H J mode5,H J n5,F neg5] 26)).alloc (.cells #[H J op6,M sa6 set6.length sc6,M ka6 kids6.length kc6,H J mn6,H J mx6,H J mode6,H J n6,F neg6] 26)).alloc (.cells #[H J 2,M none 0 0,M (some ⟨w.heap.size + 3,0,none⟩) 2 2,H J 0,H J 0,H J 0,H J 0,F false] 26)) (.cells #[H J op5,M sa5 set5.length sc5,M ka5 kids5.length kc5,H J mn5,H J mx5,H J mode5,H J n5,F neg5,H J op6,M sa6 set6.length sc6,M ka6 kids6.length kc6,H J mn6,H J mx6,H J mode6,H J n6,F neg6] 26);rw [show (((w.alloc (.cells #[H J op5,M sa5 set5.length sc5,M ka5 kids5.length kc5,H J mn5,H J mx5,H J mode5,H J n5,F neg5] 26)).alloc (.cells #[H J op6,M sa6 set6.length sc6,M ka6 kids6.length kc6,H J mn6,H J mx6,H J mode6,H J n6,F neg6] 26)).alloc (.cells #[H J 2,M none 0 0,M (some ⟨w.heap.size + 3,0,none⟩) 2 2,H J 0,H J 0,H J 0,H J 0,F false] 26)).heap.size=w.heap.size + 3 by simp] at h;exact h
 ·simp only [List.mem_cons,List.not_mem_nil,or_false] at hx
  rcases hx with rfl | rfl
  ·exact HK1.o.keep (Keeps.a4 _ _ _ _ _)
  ·exact HK2.o.keep (Keeps.a4 _ _ _ _ _)
end Go.Proofs.YtjnlkjlbejelgaaGreat
