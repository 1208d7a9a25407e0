/- Part 31 of the proof. No condition: every lemma says its own. -/
import Derived.Test.YtjnlkjlbejelgaaGreatLbd
import Derived.Test.YtjnlkjlbejelgaaGreatLao
import Derived.Test.YtjnlkjlbejelgaaGreatLar
import Derived.Test.YtjnlkjlbejelgaaGreatLam
import Derived.Test.YtjnlkjlbejelgaaGreatLan
namespace Go.Proofs.YtjnlkjlbejelgaaGreat
open Go.RowKit
open Go.Value renaming int→H,slice→M,bool→F
open Go.IntKind renaming i64→J
open Go.RowKit Go.Sort Go.BigFrame
set_option maxRecDepth 100000
set_option maxHeartbeats 16000000
theorem flat_any (m:MRe) (w:World) (k1:m.OK w) (hb:m.tree.bulk≤100000):
  Calls Tryz.prog 77 #[m.val] w (RulePost w m.blocks (inlineR 2 m.tree)):=by
 obtain ⟨R,hR0⟩:∃ R,R=inlineR 2 m.tree:=⟨_,rfl⟩;have HI:=gi (fun (W:World) (h:Keeps [] w W)=> inline_any m 2 W (k1.keep h) hb);rw [←hR0] at HI ⊢;obtain ⟨R1,hR1⟩:∃ R1,R1=R:=⟨_,rfl⟩;rw [←hR1];have HR1:=gi hR1;have HLT:=gi k1.block_lt;clear hR0 hR1;obtain ⟨op,sa,sc,set,ka,kc,kids,mn,mx,mode,n,neg⟩:=m;obtain ⟨B,X,HBE,HXE,HC,HZ,hsz,HKX⟩:=pre0 w op sa sc set ka kc kids mn mx mode n neg;have HXS:=gi hsz;clear hsz hb k1;simp only [MRe.val];obtain ⟨c0,c1,c2,c3,c4,c5,c6,c7⟩:=HC.o.cells0;go_enter Tryz.func77,Tryz.ntmps77
 go_upto_region 1 with fail
 rw [←HXE.o,←HBE.o];go_wp2_with fail
 refine Calls.mono (HI.o _ HKX.o) ?_;intro e w2 hor
 cases R with
 | none=>
  obtain ⟨rfl,hk2⟩:=hor;have K2:=gi hk2;have HR:=gi (show R1=none from HR1.o);clear hk2;obtain ⟨z0,z1,z2,z3,z4,z5,z6,z7,zf,HR2,HK2⟩:=nn HBE.o HKX.o K2.o HZ.o;go_wp2;refine rt HR2.o ?_;exact RulePost.of_none HR.o rfl HK2.o
 | some t=>
  obtain ⟨q,rfl,hqt,hqo,hk8,hqf⟩:=hor;have K8:=gi hk8;have QT:=gi hqt;have QO:=gi hqo;have QF:=gi (swap_from (lo:=B + 2) (add:=[]) (by rw [List.append_nil];exact hqf) (fun _ h=> by simp at h) HXS.o);obtain ⟨q0,hq0⟩:∃ q0,q0=q:=⟨_,rfl⟩;rw [←hq0] at QT QO QF;have Q0:=gi hq0;clear hqt hqo hk8 hqf hq0;obtain ⟨op9,sa9,sc9,set9,ka9,kc9,kids9,mn9,mx9,mode9,n9,neg9⟩:=q;simp only [MRe.val];obtain ⟨z0,z1,z2,z3,z4,z5,z6,z7,zf⟩:=zero_cells (K8.o.h HZ.o);go_wp2;have hfr:=QF.o;rw [Q0.o] at hfr;obtain ⟨hR,hok,hke,hfr2⟩:=rule_store HBE.o HKX.o K8.o HZ.o (by rw [←Q0.o];exact QO.o) hfr HLT.o;refine rt hR ?_;exact RulePost.of_some (.node op9 sa9 sc9 set9 ka9 kc9 kids9 mn9 mx9 mode9 n9 neg9) (by rw [HR1.o,←Q0.o,QT.o]) rfl hok hke hfr2
theorem merge_any (m:MRe) (w:World) (k1:m.OK w) (hb:m.tree.bulk≤100000):
  Calls Tryz.prog 78 #[m.val] w (RulePost w m.blocks (inlineR 3 m.tree)):=by
 obtain ⟨R,hR0⟩:∃ R,R=inlineR 3 m.tree:=⟨_,rfl⟩;have HI:=gi (fun (W:World) (h:Keeps [] w W)=> inline_any m 3 W (k1.keep h) hb);rw [←hR0] at HI ⊢;obtain ⟨R1,hR1⟩:∃ R1,R1=R:=⟨_,rfl⟩;rw [←hR1];have HR1:=gi hR1;have HLT:=gi k1.block_lt;clear hR0 hR1;obtain ⟨op,sa,sc,set,ka,kc,kids,mn,mx,mode,n,neg⟩:=m;obtain ⟨B,X,HBE,HXE,HC,HZ,hsz,HKX⟩:=pre0 w op sa sc set ka kc kids mn mx mode n neg;have HXS:=gi hsz;clear hsz hb k1;simp only [MRe.val];obtain ⟨c0,c1,c2,c3,c4,c5,c6,c7⟩:=HC.o.cells0;go_enter Tryz.func78,Tryz.ntmps78
 go_upto_region 1 with fail
 rw [←HXE.o,←HBE.o];go_wp2_with fail
 refine Calls.mono (HI.o _ HKX.o) ?_;intro e w2 hor
 cases R with
 | none=>
  obtain ⟨rfl,hk2⟩:=hor;have K2:=gi hk2;have HR:=gi (show R1=none from HR1.o);clear hk2;obtain ⟨z0,z1,z2,z3,z4,z5,z6,z7,zf,HR2,HK2⟩:=nn HBE.o HKX.o K2.o HZ.o;go_wp2;refine rt HR2.o ?_;exact RulePost.of_none HR.o rfl HK2.o
 | some t=>
  obtain ⟨q,rfl,hqt,hqo,hk8,hqf⟩:=hor;have K8:=gi hk8;have QT:=gi hqt;have QO:=gi hqo;have QF:=gi (swap_from (lo:=B + 2) (add:=[]) (by rw [List.append_nil];exact hqf) (fun _ h=> by simp at h) HXS.o);obtain ⟨q0,hq0⟩:∃ q0,q0=q:=⟨_,rfl⟩;rw [←hq0] at QT QO QF;have Q0:=gi hq0;clear hqt hqo hk8 hqf hq0;obtain ⟨op9,sa9,sc9,set9,ka9,kc9,kids9,mn9,mx9,mode9,n9,neg9⟩:=q;simp only [MRe.val];obtain ⟨z0,z1,z2,z3,z4,z5,z6,z7,zf⟩:=zero_cells (K8.o.h HZ.o);go_wp2;have hfr:=QF.o;rw [Q0.o] at hfr;obtain ⟨hR,hok,hke,hfr2⟩:=rule_store HBE.o HKX.o K8.o HZ.o (by rw [←Q0.o];exact QO.o) hfr HLT.o;refine rt hR ?_;exact RulePost.of_some (.node op9 sa9 sc9 set9 ka9 kc9 kids9 mn9 mx9 mode9 n9 neg9) (by rw [HR1.o,←Q0.o,QT.o]) rfl hok hke hfr2
theorem pair_test (K:Nat) (p:Tree→Tree→Bool) (o:Int) (m:MRe) (w:World) (k1:m.OK w) (f1:m.tree.WF) (he:Enters K)
  (ht:∀ (a b:MRe) (V:World),a.OK V→b.OK V→a.tree.WF→b.tree.WF→Calls Tryz.prog K #[a.val,b.val] V fun e w'=> e=.returned (F (p a.tree b.tree))∧Keeps [] V w'):
  ∀ W,Keeps [] w W→Calls Tryz.prog 118 #[m.val,H J o,.func (Fn.func K) #[] #[]] W (PairPost (Keeps [] W) (fun _=> Keeps [] W) (pairO p o m.tree)):=fun W hW=>
 pair_any K #[] p o m W (Keeps [] W) (fun _=> Keeps [] W) he (Keeps.refl _ _) (fun V hV=> k1.keep (hW.trans hV)) (fun _ V hV=> k1.keep (hW.trans hV)) (fun V hV=> hV.drew) (fun V o hV=> hV.alloc o)
  (testOK_of fun a ha b hb V hV=> by
   cases m with
   | node op sa sc set ka kc kids mn mx mode n neg=> exact ht a b V ((k1.keep (hW.trans hV)).kid ha) ((k1.keep (hW.trans hV)).kid hb) (wf_kid f1 ha) (wf_kid f1 hb))
theorem enters_stars1:Enters 127:=enters_of Tryz.func127 (by kernel_rfl) rfl
theorem enters_maybe1:Enters 128:=enters_of Tryz.func128 (by kernel_rfl) rfl
theorem enters_plus1:Enters 129:=enters_of Tryz.func129 (by kernel_rfl) rfl
theorem enters_tail1:Enters 122:=enters_of Tryz.func122 (by kernel_rfl) rfl
def dropR (p:Tree→Tree→Bool) (t:Tree):Option Tree:=(pairO p 2 t).map fun i=> swapT t.op t.kids i (i + 1) []
theorem stars_any (m:MRe) (w:World) (k1:m.OK w) (f1:m.tree.WF) (hb:m.tree.bulk≤100000):
  Calls Tryz.prog 86 #[m.val] w (RulePost w m.blocks (dropR starsP m.tree)):=by
 obtain ⟨R,hR0⟩:∃ R,R=dropR starsP m.tree:=⟨_,rfl⟩;rw [←hR0];have HP:=gi (pair_test 127 starsP 2 m w k1 f1 enters_stars1 (fun a b V ha hb fa fb=> stars1_any a b V ha hb fa));have HSW:=gi (fun (W:World) (h:Keeps [] w W) (i:Nat)=> swap0_any m i W (k1.keep h));have HLT:=gi k1.block_lt;unfold dropR at hR0;obtain ⟨po,hpo⟩:∃ po,po=pairO starsP 2 m.tree:=⟨_,rfl⟩;rw [←hpo] at HP hR0;obtain ⟨op,sa,sc,set,ka,kc,kids,mn,mx,mode,n,neg⟩:=m;have HBK:=gi (kids_bulk hb).1;obtain ⟨B,X,HBE,HXE,HC,HZ,hsz,HKX⟩:=pre0 w op sa sc set ka kc kids mn mx mode n neg;have HXS:=gi hsz;simp only [MRe.val];clear hsz hb k1 f1
 cases po with
 | none=>
  have HR:=gi (show R=none from hR0);clear hR0 hpo;obtain ⟨c0,c1,c2,c3,c4,c5,c6,c7⟩:=HC.o.cells0;go_enter Tryz.func86,Tryz.ntmps86
  go_upto_region 1 with fail
  rw [←HXE.o,←HBE.o];go_wp2_with fail
  refine Calls.mono (HP.o _ HKX.o) ?_;intro e w2 hor;obtain ⟨⟨x,rfl⟩,hk2⟩:=hor;have K2:=gi hk2;clear hk2;obtain ⟨z0,z1,z2,z3,z4,z5,z6,z7,zf,HR2,HK2⟩:=nn HBE.o HKX.o K2.o HZ.o;go_wp2;refine rt HR2.o ?_;exact RulePost.of_none HR.o rfl HK2.o
 | some i=>
  obtain ⟨_,hlt,_⟩:=pairO_some hpo.symm;have hlt:i + 1 < (MRe.trees kids).length:=hlt;rw [MRe.trees_length] at hlt;have HRT:=gi (fun (q0:MRe) (h:q0.tree=swapT op (MRe.trees kids) i (i + 1) [])=> show R=some q0.tree by rw [hR0,h];rfl);have HADD:=gi (show ∀ x∈([]:List Nat),x∈(.node op sa sc set ka kc kids mn mx mode n neg:MRe).blocks∨B + 2≤x from fun _ h=> by simp at h);have hw1:IntKind.i64.wrap ((i:Int) + 1)=(i:Int) + 1:=IntWalk.i64_in _ (by have:=HBK.o;omega);clear hR0 hpo;obtain ⟨c0,c1,c2,c3,c4,c5,c6,c7⟩:=HC.o.cells0;go_enter Tryz.func86,Tryz.ntmps86
  go_upto_region 1 with fail
  rw [←HXE.o,←HBE.o];go_wp2_with fail
  refine Calls.mono (HP.o _ HKX.o) ?_;intro e w2 hor;obtain ⟨rfl,hk2⟩:=hor;have KC:=gi hk2;obtain ⟨u0,u1,u2,u3,u4,u5,u6,u7⟩:=KC.o.c8 c0 c1 c2 c3 c4 c5 c6 c7;have HS:=gi (HSW.o _ (HKX.o.trans hk2) i (by show i < kids.length;omega) HBK.o);clear hk2 c0 c1 c2 c3 c4 c5 c6 c7;go_wp2_with fail
  refine Calls.mono HS.o ?_;rintro e w8 ⟨q,rfl,hqt,hqo,hk8,hqf⟩;have E8:=gi hk8;have K8:=gi (KC.o.trans hk8);have QT:=gi hqt;have QO:=gi hqo;have QF:=gi hqf;obtain ⟨q0,hq0⟩:∃ q0,q0=q:=⟨_,rfl⟩;rw [←hq0] at QT QO QF;have Q0:=gi hq0;clear hqt hqo hk8 hqf hq0;obtain ⟨op9,sa9,sc9,set9,ka9,kc9,kids9,mn9,mx9,mode9,n9,neg9⟩:=q;simp only [MRe.val];obtain ⟨z0,z1,z2,z3,z4,z5,z6,z7,zf⟩:=zero_cells (K8.o.h HZ.o);clear u0 u1 u2 u3 u4 u5 u6 u7;go_wp2;have hfr:=swap_from QF.o HADD.o (Nat.le_trans HXS.o KC.o.size);rw [Q0.o] at hfr;obtain ⟨hR,hok,hke,hfr2⟩:=rule_store HBE.o HKX.o K8.o HZ.o (by rw [←Q0.o];exact QO.o) hfr HLT.o;refine rt hR ?_;exact RulePost.of_some (.node op9 sa9 sc9 set9 ka9 kc9 kids9 mn9 mx9 mode9 n9 neg9) (by rw [←Q0.o];exact HRT.o q0 QT.o) rfl hok hke hfr2
theorem maybe_any (m:MRe) (w:World) (k1:m.OK w) (f1:m.tree.WF) (hb:m.tree.bulk≤100000):
  Calls Tryz.prog 87 #[m.val] w (RulePost w m.blocks (dropR maybeP m.tree)):=by
 obtain ⟨R,hR0⟩:∃ R,R=dropR maybeP m.tree:=⟨_,rfl⟩;rw [←hR0];have HP:=gi (pair_test 128 maybeP 2 m w k1 f1 enters_maybe1 (fun a b V ha hb fa fb=> maybe1_any a b V ha hb fa fb));have HSW:=gi (fun (W:World) (h:Keeps [] w W) (i:Nat)=> swap0_any m i W (k1.keep h));have HLT:=gi k1.block_lt;unfold dropR at hR0;obtain ⟨po,hpo⟩:∃ po,po=pairO maybeP 2 m.tree:=⟨_,rfl⟩;rw [←hpo] at HP hR0;obtain ⟨op,sa,sc,set,ka,kc,kids,mn,mx,mode,n,neg⟩:=m;have HBK:=gi (kids_bulk hb).1;obtain ⟨B,X,HBE,HXE,HC,HZ,hsz,HKX⟩:=pre0 w op sa sc set ka kc kids mn mx mode n neg;have HXS:=gi hsz;simp only [MRe.val];clear hsz hb k1 f1
 cases po with
 | none=>
  have HR:=gi (show R=none from hR0);clear hR0 hpo;obtain ⟨c0,c1,c2,c3,c4,c5,c6,c7⟩:=HC.o.cells0;go_enter Tryz.func87,Tryz.ntmps87
  go_upto_region 1 with fail
  rw [←HXE.o,←HBE.o];go_wp2_with fail
  refine Calls.mono (HP.o _ HKX.o) ?_;intro e w2 hor;obtain ⟨⟨x,rfl⟩,hk2⟩:=hor;have K2:=gi hk2;clear hk2;obtain ⟨z0,z1,z2,z3,z4,z5,z6,z7,zf,HR2,HK2⟩:=nn HBE.o HKX.o K2.o HZ.o;go_wp2;refine rt HR2.o ?_;exact RulePost.of_none HR.o rfl HK2.o
 | some i=>
  obtain ⟨_,hlt,_⟩:=pairO_some hpo.symm;have hlt:i + 1 < (MRe.trees kids).length:=hlt;rw [MRe.trees_length] at hlt;have HRT:=gi (fun (q0:MRe) (h:q0.tree=swapT op (MRe.trees kids) i (i + 1) [])=> show R=some q0.tree by rw [hR0,h];rfl);have HADD:=gi (show ∀ x∈([]:List Nat),x∈(.node op sa sc set ka kc kids mn mx mode n neg:MRe).blocks∨B + 2≤x from fun _ h=> by simp at h);have hw1:IntKind.i64.wrap ((i:Int) + 1)=(i:Int) + 1:=IntWalk.i64_in _ (by have:=HBK.o;omega);clear hR0 hpo;obtain ⟨c0,c1,c2,c3,c4,c5,c6,c7⟩:=HC.o.cells0;go_enter Tryz.func87,Tryz.ntmps87
  go_upto_region 1 with fail
  rw [←HXE.o,←HBE.o];go_wp2_with fail
  refine Calls.mono (HP.o _ HKX.o) ?_;intro e w2 hor;obtain ⟨rfl,hk2⟩:=hor;have KC:=gi hk2;obtain ⟨u0,u1,u2,u3,u4,u5,u6,u7⟩:=KC.o.c8 c0 c1 c2 c3 c4 c5 c6 c7;have HS:=gi (HSW.o _ (HKX.o.trans hk2) i (by show i < kids.length;omega) HBK.o);clear hk2 c0 c1 c2 c3 c4 c5 c6 c7;go_wp2_with fail
  refine Calls.mono HS.o ?_;rintro e w8 ⟨q,rfl,hqt,hqo,hk8,hqf⟩;have E8:=gi hk8;have K8:=gi (KC.o.trans hk8);have QT:=gi hqt;have QO:=gi hqo;have QF:=gi hqf;obtain ⟨q0,hq0⟩:∃ q0,q0=q:=⟨_,rfl⟩;rw [←hq0] at QT QO QF;have Q0:=gi hq0;clear hqt hqo hk8 hqf hq0;obtain ⟨op9,sa9,sc9,set9,ka9,kc9,kids9,mn9,mx9,mode9,n9,neg9⟩:=q;simp only [MRe.val];obtain ⟨z0,z1,z2,z3,z4,z5,z6,z7,zf⟩:=zero_cells (K8.o.h HZ.o);clear u0 u1 u2 u3 u4 u5 u6 u7;go_wp2;have hfr:=swap_from QF.o HADD.o (Nat.le_trans HXS.o KC.o.size);rw [Q0.o] at hfr;obtain ⟨hR,hok,hke,hfr2⟩:=rule_store HBE.o HKX.o K8.o HZ.o (by rw [←Q0.o];exact QO.o) hfr HLT.o;refine rt hR ?_;exact RulePost.of_some (.node op9 sa9 sc9 set9 ka9 kc9 kids9 mn9 mx9 mode9 n9 neg9) (by rw [←Q0.o];exact HRT.o q0 QT.o) rfl hok hke hfr2
def plusR (t:Tree):Option Tree:=(pairO plusP 2 t).map fun i=> swapT t.op t.kids i (i + 2) [.node 4 [] [t.kids.getD i .nil] 1 (-1) 0 0 false]
theorem newrep_in {W:World} {op mn mx:Int} {T T':Nat} {s:MRe} (h1:s.OK W) (cs:Array Value) (hcs:cs.toList=s.row):
  KidsIn ((W.alloc (.cells cs T)).alloc (.cells #[H J op,M none 0 0,M (some ⟨W.heap.size,0,none⟩) 1 1,H J mn,H J mx,H J 0,H J 0,F false] T')) (some ⟨W.heap.size + 1,0,none⟩) 1 [.node op none 0 [] (some ⟨W.heap.size,0,none⟩) 1 [s] mn mx 0 0 false]:=by
 have kk:=Keeps.a2 W (.cells cs T) (.cells #[H J op,M none 0 0,M (some ⟨W.heap.size,0,none⟩) 1 1,H J mn,H J mx,H J 0,H J 0,F false] T');refine ⟨NodesIn.of_block (kids:=[.node op none 0 [] (some ⟨W.heap.size,0,none⟩) 1 [s] mn mx 0 0 false]) (heap_alloc2_new W _ _) rfl (by simp [maxLen]),fun k hk=> ?_⟩;simp only [List.mem_cons,List.not_mem_nil,or_false] at hk;subst hk;refine .of (SpansIn.nil _) ⟨NodesIn.of_block (kids:=[s]) ((Keeps.a1 _ _).heap (heap_alloc_new W _) (by simp)) (by rw [hcs];simp [flatK]) (by simp [maxLen]),fun x hx=> ?_⟩;simp only [List.mem_cons,List.not_mem_nil,or_false] at hx;subst hx;exact h1.keep kk
theorem plus_any (m:MRe) (w:World) (k1:m.OK w) (f1:m.tree.WF) (hb:m.tree.bulk≤100000):
  Calls Tryz.prog 88 #[m.val] w (RulePost w m.blocks (plusR m.tree)):=by
 obtain ⟨R,hR0⟩:∃ R,R=plusR m.tree:=⟨_,rfl⟩;rw [←hR0];have HP:=gi (pair_test 129 plusP 2 m w k1 f1 enters_plus1 (fun a b V ha hb fa fb=> plus1_any a b V ha hb fb));have HSW:=gi (fun (W:World) (i:Nat) (la:Option Addr) (l:MRe)=> swap_any m i (i + 2) la 1 [l] W);have HLT:=gi k1.block_lt;unfold plusR at hR0;obtain ⟨po,hpo⟩:∃ po,po=pairO plusP 2 m.tree:=⟨_,rfl⟩;rw [←hpo] at HP hR0;obtain ⟨op,sa,sc,set,ka,kc,kids,mn,mx,mode,n,neg⟩:=m;have HBK:=gi (kids_bulk hb).1;obtain ⟨B,X,HBE,HXE,HC,HZ,hsz,HKX⟩:=pre0 w op sa sc set ka kc kids mn mx mode n neg;have HXS:=gi hsz;have K1:=gi k1;simp only [MRe.val];clear hsz hb k1 f1
 cases po with
 | none=>
  have HR:=gi (show R=none from hR0);clear hR0 hpo;obtain ⟨c0,c1,c2,c3,c4,c5,c6,c7⟩:=HC.o.cells0;go_enter Tryz.func88,Tryz.ntmps88
  go_upto_region 1 with fail
  rw [←HXE.o,←HBE.o];go_wp2_with fail
  refine Calls.mono (HP.o _ HKX.o) ?_;intro e w2 hor;obtain ⟨⟨x,rfl⟩,hk2⟩:=hor;have K2:=gi hk2;clear hk2;obtain ⟨z0,z1,z2,z3,z4,z5,z6,z7,zf,HR2,HK2⟩:=nn HBE.o HKX.o K2.o HZ.o;go_wp2;refine rt HR2.o ?_;exact RulePost.of_none HR.o rfl HK2.o
 | some i=>
  obtain ⟨_,hlt,_⟩:=pairO_some hpo.symm;have hlt:i + 1 < (MRe.trees kids).length:=hlt;rw [MRe.trees_length] at hlt;have hg:(MRe.trees kids).getD i .nil=(kids[i]'(by omega)).tree:=by rw [List.getD_eq_getElem?_getD,List.getElem?_eq_getElem (by rw [MRe.trees_length];omega),Option.getD_some,trees_getElem]
  obtain ⟨b,off,rfl,hbb,hxk⟩:=K1.o.nodes.kid (by omega);have hak:=hxk i (by omega);have hok:=K1.o.kid (List.getElem_mem (n:=i) (by omega));have hbl:=blocks_kid (op:=op) (sa:=sa) (sc:=sc) (set:=set) (ka:=some ⟨b,off,none⟩) (kc:=kc) (mn:=mn) (mx:=mx) (mode:=mode) (n:=n) (neg:=neg) (List.getElem_mem (l:=kids) (n:=i) (by omega));obtain ⟨k0,hk0⟩:∃ k0,k0=(kids[i]'(by omega)):=⟨_,rfl⟩;rw [←hk0] at hg hak hok hbl;have HRT:=gi (fun (q0:MRe) (h:q0.tree=swapT op (MRe.trees kids) i (i + 2) [.node 4 [] [k0.tree] 1 (-1) 0 0 false])=> show R=some q0.tree by rw [hR0,h,←hg];rfl);have HBL:=gi hbl;have HOK:=gi hok;obtain ⟨k00,hk00⟩:∃ k00,k00=k0:=⟨_,rfl⟩;rw [←hk00] at HRT HBL HOK;have K00:=gi hk00;obtain ⟨op1,sa1,sc1,set1,ka1,kc1,kids1,mn1,mx1,mode1,n1,neg1⟩:=k0;have g:=hak.node;obtain ⟨e0,e1,e2,e3,e4,e5,e6,e7⟩:=id g;obtain ⟨d0,d1,d2,d3,d4,d5,d6,d7⟩:=HKX.o.c8 e0 e1 e2 e3 e4 e5 e6 e7;have hw1:IntKind.i64.wrap ((i:Int) + 2)=(i:Int) + 2:=IntWalk.i64_in _ (by have:=HBK.o;omega);have hi0:(0:Int)≤(i:Int):=by omega
  have hi2:(i:Int) < (kids.length:Int):=by omega
  have hi3:i < kids.length:=by omega
  clear hR0 hpo hg hxk hak hok hbl hk0 hk00 g e0 e1 e2 e3 e4 e5 e6 e7;obtain ⟨c0,c1,c2,c3,c4,c5,c6,c7⟩:=HC.o.cells0;go_enter Tryz.func88,Tryz.ntmps88
  go_upto_region 1 with fail
  rw [←HXE.o,←HBE.o];go_wp2_with fail
  refine Calls.mono (HP.o _ HKX.o) ?_;intro e w2 hor;obtain ⟨rfl,hk2⟩:=hor;have K2:=gi hk2;obtain ⟨u0,u1,u2,u3,u4,u5,u6,u7⟩:=hk2.c8 c0 c1 c2 c3 c4 c5 c6 c7;obtain ⟨v0,v1,v2,v3,v4,v5,v6,v7⟩:=hk2.c8 d0 d1 d2 d3 d4 d5 d6 d7;clear hk2 c0 c1 c2 c3 c4 c5 c6 c7 d0 d1 d2 d3 d4 d5 d6 d7;obtain ⟨D,hD⟩:∃ D,D=w2.drew:=⟨_,rfl⟩;have KD:=gi (show Keeps [] w2 D by rw [hD];exact (Keeps.refl [] w2).drew);go_wp2;refine rg (S:=fun w'=> (w'.cell? ⟨B,0,none⟩=some (H J op)∧w'.cell? ⟨B,1,none⟩=some (M sa set.length sc)∧w'.cell? ⟨B,2,none⟩=some (M (some ⟨b,off,none⟩) kids.length kc)∧w'.cell? ⟨B,3,none⟩=some (H J mn)∧w'.cell? ⟨B,4,none⟩=some (H J mx)∧w'.cell? ⟨B,5,none⟩=some (H J mode)∧w'.cell? ⟨B,6,none⟩=some (H J n)∧w'.cell? ⟨B,7,none⟩=some (F neg))∧(w'.cell? ⟨b,off + i * 8,none⟩=some (H J op1)∧w'.cell? ⟨b,off + i * 8 + 1,none⟩=some (M sa1 set1.length sc1)∧w'.cell? ⟨b,off + i * 8 + 2,none⟩=some (M ka1 kids1.length kc1)∧w'.cell? ⟨b,off + i * 8 + 3,none⟩=some (H J mn1)∧w'.cell? ⟨b,off + i * 8 + 4,none⟩=some (H J mx1)∧w'.cell? ⟨b,off + i * 8 + 5,none⟩=some (H J mode1)∧w'.cell? ⟨b,off + i * 8 + 6,none⟩=some (H J n1)∧w'.cell? ⟨b,off + i * 8 + 7,none⟩=some (F neg1))) (fun _ k=> ⟨⟨k.c u0,k.c u1,k.c u2,k.c u3,k.c u4,k.c u5,k.c u6,k.c u7⟩,⟨k.c v0,k.c v1,k.c v2,k.c v3,k.c v4,k.c v5,k.c v6,k.c v7⟩⟩) fun kz hHeld=> ?_;rw [←hD] at hHeld ⊢;clear hD;refine tk 0 ?_;refine tk 1 ?_;refine tk 2 ?_;refine tk 3 ?_;refine tk 4 ?_;refine tk 5 ?_;refine tk 6 ?_;refine tk 7 ?_;refine tk 8 ?_;refine j6 9 fun K hK=> ?_;go_simp;have E1:=gi (KD.o.trans (Keeps.a1 D (.cells #[H J op1,M sa1 set1.length sc1,M ka1 kids1.length kc1,H J mn1,H J mx1,H J mode1,H J n1,F neg1] 26)));refine hK.out _ _ (kz.o _ E1.o) fun hHeld=> ?_;clear hK K;try go_frame
  refine tk 10 ?_;refine j6 11 fun K hK=> ?_;go_simp;have E2:=gi (KD.o.trans (Keeps.a2 D (.cells #[H J op1,M sa1 set1.length sc1,M ka1 kids1.length kc1,H J mn1,H J mx1,H J mode1,H J n1,F neg1] 26) (.cells #[H J 4,M none 0 0,M (some ⟨D.heap.size,0,none⟩) 1 1,H J 1,H J (-1),H J 0,H J 0,F false] 26)));refine hK.out _ _ (kz.o _ E2.o) fun hHeld=> ?_;clear hK K;try go_frame
  have hkin:=newrep_in (W:=D) (op:=4) (mn:=1) (mx:= -1) (T:=26) (T':=26) (HOK.o.keep (HKX.o.trans (K2.o.trans KD.o))) #[H J op1,M sa1 set1.length sc1,M ka1 kids1.length kc1,H J mn1,H J mx1,H J mode1,H J n1,F neg1] (by rw [K00.o];rfl);have hs:=HSW.o _ i (some ⟨D.heap.size + 1,0,none⟩) (.node 4 none 0 [] (some ⟨D.heap.size,0,none⟩) 1 [k00] 1 (-1) 0 0 false) (K1.o.keep (HKX.o.trans (K2.o.trans E2.o))) hkin (by omega) (by show i + 2≤kids.length;omega) (by show 0 < kids.length;omega) (by show kids.length + 1≤1000000;have:=HBK.o;omega);rw [show ((i + 2:Nat):Int)=(i:Int) + 2 by omega,List.length_singleton] at hs;have HS:=gi hs;have KC:=gi (K2.o.trans E2.o);have HADD:=gi (show ∀ x∈MRe.blocksL [.node 4 none 0 [] (some ⟨D.heap.size,0,none⟩) 1 [k00] 1 (-1) 0 0 false],x∈(MRe.node op sa sc set (some ⟨b,off,none⟩) kc kids mn mx mode n neg).blocks∨B + 2≤x from fun x hx=> by
   simp only [MRe.blocksL,MRe.blocks,List.append_nil,List.mem_append] at hx
   rcases hx with h | h | h
   ·simp [blockIf] at h
   ·simp [blockIf] at h;subst h;exact .inr (Nat.le_trans HXS.o (Nat.le_trans K2.o.size KD.o.size))
   ·exact .inl (HBL.o x h))
  clear hkin hs;refine j6 12 fun K hK=> ?_;go_simp
  go_at_call 114
  refine Calls.mono HS.o ?_;rintro e w8 ⟨q,rfl,hqt,hqo,hk8,hqf⟩;have E8:=gi hk8;have K8:=gi (KC.o.trans hk8);have QT:=gi hqt;have QO:=gi hqo;have QF:=gi hqf;obtain ⟨q0,hq0⟩:∃ q0,q0=q:=⟨_,rfl⟩;rw [←hq0] at QT QO QF;have Q0:=gi hq0;clear hqt hqo hk8 hqf hq0;obtain ⟨op9,sa9,sc9,set9,ka9,kc9,kids9,mn9,mx9,mode9,n9,neg9⟩:=q;simp only [MRe.val];have E9:=gi (E2.o.trans E8.o);obtain ⟨z0,z1,z2,z3,z4,z5,z6,z7,zf⟩:=zero_cells (K8.o.h HZ.o);refine hK.out _ _ (kz.o _ E9.o) fun hHeld=> ?_;clear hK K;try go_frame
  refine tk 13 ?_;refine tk 14 ?_;refine j6 15 fun K hK=> ?_;go_simp;have hbB:b < B:=by rw [HBE.o];exact hbb
  have E10:=gi ((E9.o.mono (S':=[B + 1]) (by simp)).trans (set8_keeps w8 (B + 1) (H J op9) (M sa9 set9.length sc9) (M ka9 kids9.length kc9) (H J mn9) (H J mx9) (H J mode9) (H J n9) (F neg9)));refine hK.out _ _ (⟨⟨E10.o.cell u0 (by simp <;> omega),E10.o.cell u1 (by simp <;> omega),E10.o.cell u2 (by simp <;> omega),E10.o.cell u3 (by simp <;> omega),E10.o.cell u4 (by simp <;> omega),E10.o.cell u5 (by simp <;> omega),E10.o.cell u6 (by simp <;> omega),E10.o.cell u7 (by simp <;> omega)⟩,⟨E10.o.cell v0 (by simp <;> omega),E10.o.cell v1 (by simp <;> omega),E10.o.cell v2 (by simp <;> omega),E10.o.cell v3 (by simp <;> omega),E10.o.cell v4 (by simp <;> omega),E10.o.cell v5 (by simp <;> omega),E10.o.cell v6 (by simp <;> omega),E10.o.cell v7 (by simp <;> omega)⟩⟩) (fun hHeld=> ?_);clear hK K;try go_frame
  refine tk 16 ?_;refine wd ?_;clear z0 z1 z2 z3 z4 z5 z6 z7 zf u0 u1 u2 u3 u4 u5 u6 u7 v0 v1 v2 v3 v4 v5 v6 v7 hHeld;go_wp2;have hfr:=swap_from QF.o HADD.o (Nat.le_trans HXS.o KC.o.size);rw [Q0.o] at hfr;obtain ⟨hR,hok,hke,hfr2⟩:=rule_store HBE.o HKX.o K8.o HZ.o (by rw [←Q0.o];exact QO.o) hfr HLT.o;refine rt hR ?_;exact RulePost.of_some (.node op9 sa9 sc9 set9 ka9 kc9 kids9 mn9 mx9 mode9 n9 neg9) (by rw [←Q0.o];exact HRT.o q0 QT.o) rfl hok hke hfr2
def PairRes (w:World) (src:List Nat) (o:Option (List Tree)) (e:Ending) (w':World):Prop:=
 match o with
 | none=> e=.returned (.tuple #[M none 0 0,F false])∧Keeps [] w w'
 | some l=> ∃ (la:Option Addr) (ms:List MRe),e=.returned (.tuple #[M la ms.length 1,F true])∧ms.length=1∧MRe.trees ms=l∧KidsIn w' la 1 ms∧Keeps [] w w'∧From w.heap.size src (MRe.blocksL ms)
theorem PairRes.of_none {w:World} {src:List Nat} {o:Option (List Tree)} {e:Ending} {w':World} (h:o=none) (he:e=.returned (.tuple #[M none 0 0,F false])) (hk:Keeps [] w w'):PairRes w src o e w':=by subst h;exact ⟨he,hk⟩
theorem PairRes.of_some {w:World} {src:List Nat} {o:Option (List Tree)} {e:Ending} {w':World} {t:Tree} (la:Option Addr) (x:MRe) (h:o=some [t]) (ht:x.tree=t) (he:e=.returned (.tuple #[M la 1 1,F true])) (hx:KidsIn w' la 1 [x]) (hk:Keeps [] w w') (hb:From w.heap.size src x.blocks):PairRes w src o e w':=by
 subst h;subst ht;exact ⟨la,[x],he,rfl,rfl,hx,hk,by simpa [MRe.blocksL] using hb⟩
end Go.Proofs.YtjnlkjlbejelgaaGreat
