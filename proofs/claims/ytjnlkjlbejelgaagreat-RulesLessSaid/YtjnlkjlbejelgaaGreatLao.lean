/- Part 15 of the proof. No condition: every lemma says its own. -/
import Derived.Test.YtjnlkjlbejelgaaGreatLan
import Derived.Test.YtjnlkjlbejelgaaGreatLag
namespace Go.Proofs.YtjnlkjlbejelgaaGreat
open Go.RowKit
open Go.Value renaming int→H,slice→M,bool→F
open Go.IntKind renaming i64→J
set_option maxRecDepth 100000
set_option maxHeartbeats 16000000
def looseR:Tree→Option Tree
 | .node op _ kids _ _ _ _ _=> if op=9∧singleT (kids.getD 0 .nil)=true then some (kids.getD 0 .nil) else none
theorem loose_any (m:MRe) (w:World) (k1:m.OK w) (f1:m.tree.WF):
  Calls Tryz.prog 92 #[m.val] w (RulePost w m.blocks (looseR m.tree)):=by
 obtain ⟨R,hR0⟩:∃ R,R=looseR m.tree:=⟨_,rfl⟩;rw [←hR0];obtain ⟨op,sa,sc,set,ka,kc,kids,mn,mx,mode,n,neg⟩:=m;have hno:=wf_node f1;obtain ⟨B,X,HBE,HXE,HC,HZ,hsz,HKX⟩:=pre0 w op sa sc set ka kc kids mn mx mode n neg;have HXS:=gi hsz;have HLT:=gi k1.block_lt;have HK0:=gi (Keeps.refl [] X);replace hR0:R=if op=9∧singleT ((MRe.trees kids).getD 0 .nil)=true then some ((MRe.trees kids).getD 0 .nil) else none:=hR0;simp only [MRe.val];clear hsz
 by_cases a1:op=9
 ·have hlen0:kids.length=1:=hno.hone (by simp [a1]);have hln0:0 < kids.length:=by omega
  have hln:(0:Int) < (kids.length:Int):=by omega
  obtain ⟨b1,o1,k0,rfl,hk0m,hk00,hk0a,hk0o⟩:=k1.kids.head hln0;obtain ⟨r,hr⟩:=trees_head hk00;have hg:(MRe.trees kids).getD 0 .nil=k0.tree:=by rw [hr];rfl
  rw [hg] at hR0;have HS:=fun W (h:Keeps [] w W)=> single_any k0 W (hk0o.keep h) (wf_kid f1 hk0m);obtain ⟨q,hq⟩:∃ q,q=singleT k0.tree:=⟨_,rfl⟩;simp only [←hq] at HS hR0;have HFR:=gi (show From (B + 2) (MRe.node op sa sc set (some ⟨b1,o1,none⟩) kc kids mn mx mode n neg).blocks k0.blocks from From.of_mem (blocks_kid hk0m));subst a1
  cases q with
  | false=>
   have HR:=gi (show R=none from hR0.trans (if_neg (fun h=> by cases h.2)));clear hR0;obtain ⟨op1,sa1,sc1,set1,ka1,kc1,kids1,mn1,mx1,mode1,n1,neg1⟩:=k0;have g:=hk0a.node;obtain ⟨e0,e1,e2,e3,e4,e5,e6,e7⟩:=id g;obtain ⟨d0,d1,d2,d3,d4,d5,d6,d7⟩:=HKX.o.c8 e0 e1 e2 e3 e4 e5 e6 e7;simp only [MRe.val] at HS;have HS:=gi HS;clear g e0 e1 e2 e3 e4 e5 e6 e7 hk0m hk00 hk0a hk0o hr hlen0 k1 f1 hno hg hq;obtain ⟨c0,c1,c2,c3,c4,c5,c6,c7⟩:=HC.o.cells0;go_enter Tryz.func92,Tryz.ntmps92
   go_upto_region 1 with fail
   rw [←HXE.o,←HBE.o];go_wp2_with fail
   refine Calls.mono (HS.o _ HKX.o) ?_;rintro e w2 ⟨rfl,hk2⟩;have K2:=gi hk2;clear hk2;obtain ⟨z0,z1,z2,z3,z4,z5,z6,z7,zf,HR2,HK2⟩:=nn HBE.o HKX.o K2.o HZ.o;go_wp2;refine rt HR2.o ?_;exact RulePost.of_none HR.o rfl HK2.o
  | true=>
   have HR:=gi (show R=some k0.tree from hR0.trans (if_pos ⟨rfl,rfl⟩));clear hR0;obtain ⟨op1,sa1,sc1,set1,ka1,kc1,kids1,mn1,mx1,mode1,n1,neg1⟩:=k0;have HOK:=gi hk0o;have g:=hk0a.node;obtain ⟨e0,e1,e2,e3,e4,e5,e6,e7⟩:=id g;obtain ⟨d0,d1,d2,d3,d4,d5,d6,d7⟩:=HKX.o.c8 e0 e1 e2 e3 e4 e5 e6 e7;simp only [MRe.val] at HS;have HS:=gi HS;clear g e0 e1 e2 e3 e4 e5 e6 e7 hk0m hk00 hk0a hk0o hr hlen0 k1 f1 hno hg hq;obtain ⟨c0,c1,c2,c3,c4,c5,c6,c7⟩:=HC.o.cells0;go_enter Tryz.func92,Tryz.ntmps92
   go_upto_region 1 with fail
   rw [←HXE.o,←HBE.o];go_wp2_with fail
   refine Calls.mono (HS.o _ HKX.o) ?_;rintro e w2 ⟨rfl,hk2⟩;have K2:=gi hk2;obtain ⟨u0,u1,u2,u3,u4,u5,u6,u7⟩:=K2.o.c8 c0 c1 c2 c3 c4 c5 c6 c7;obtain ⟨v0,v1,v2,v3,v4,v5,v6,v7⟩:=K2.o.c8 d0 d1 d2 d3 d4 d5 d6 d7;obtain ⟨z0,z1,z2,z3,z4,z5,z6,z7,zf⟩:=zero_cells (K2.o.h HZ.o);obtain ⟨hR,hok,hke,hfr2⟩:=rule_store HBE.o HKX.o K2.o HZ.o (HOK.o.keep (HKX.o.trans K2.o)) HFR.o HLT.o;have H1:=gi hR;have H2:=gi hok;have H3:=gi hke;have H4:=gi hfr2;clear hk2 c0 c1 c2 c3 c4 c5 c6 c7 d0 d1 d2 d3 d4 d5 d6 d7 hR hok hke hfr2;go_wp2;refine rt H1.o ?_;exact RulePost.of_some (.node op1 sa1 sc1 set1 ka1 kc1 kids1 mn1 mx1 mode1 n1 neg1) HR.o rfl H2.o H3.o H4.o
 ·have HR:=gi (show R=none from hR0.trans (if_neg (fun h=> a1 h.1)));clear hR0;have hb:(op !=9)=true:=by simpa using a1
  clear k1 f1 hno;obtain ⟨c0,c1,c2,c3,c4,c5,c6,c7⟩:=HC.o.cells0;go_enter Tryz.func92,Tryz.ntmps92
  go_upto_region 1 with fail
  rw [←HXE.o,←HBE.o];obtain ⟨z0,z1,z2,z3,z4,z5,z6,z7,zf,HR2,HK2⟩:=nn HBE.o HKX.o HK0.o HZ.o;go_wp2;refine rt HR2.o ?_;exact RulePost.of_none HR.o rfl HK2.o
def sureR:Tree→Option Tree
 | .node op _ kids _ _ _ _ neg=> if op=7∧neg=false∧plainP (kids.getD 0 .nil)=true∧nullP (kids.getD 0 .nil)=true then some .nil else none
theorem sure_any (m:MRe) (w:World) (k1:m.OK w) (f1:m.tree.WF):
  Calls Tryz.prog 91 #[m.val] w (RulePost w m.blocks (sureR m.tree)):=by
 obtain ⟨R,hR0⟩:∃ R,R=sureR m.tree:=⟨_,rfl⟩;rw [←hR0];obtain ⟨op,sa,sc,set,ka,kc,kids,mn,mx,mode,n,neg⟩:=m;have hno:=wf_node f1;obtain ⟨B,X,HBE,HXE,HC,HZ,hsz,HKX⟩:=pre0 w op sa sc set ka kc kids mn mx mode n neg;have HXS:=gi hsz;have HLT:=gi k1.block_lt;have HK0:=gi (Keeps.refl [] X);replace hR0:R=if op=7∧neg=false∧plainP ((MRe.trees kids).getD 0 .nil)=true∧nullP ((MRe.trees kids).getD 0 .nil)=true then some .nil else none:=hR0;simp only [MRe.val];clear hsz
 by_cases a1:op=7
 ·cases neg with
  | true=>
   have HR:=gi (show R=none from hR0.trans (if_neg (fun h=> by cases h.2.1)));clear hR0;subst a1;clear k1 f1 hno;obtain ⟨c0,c1,c2,c3,c4,c5,c6,c7⟩:=HC.o.cells0;go_enter Tryz.func91,Tryz.ntmps91
   go_upto_region 1 with fail
   rw [←HXE.o,←HBE.o];obtain ⟨z0,z1,z2,z3,z4,z5,z6,z7,zf,HR2,HK2⟩:=nn HBE.o HKX.o HK0.o HZ.o;go_wp2;refine rt HR2.o ?_;exact RulePost.of_none HR.o rfl HK2.o
  | false=>
   have hlen0:kids.length=1:=hno.hone (by simp [a1]);have hln0:0 < kids.length:=by omega
   have hln:(0:Int) < (kids.length:Int):=by omega
   obtain ⟨b1,o1,k0,rfl,hk0m,hk00,hk0a,hk0o⟩:=k1.kids.head hln0;obtain ⟨r,hr⟩:=trees_head hk00;have hg:(MRe.trees kids).getD 0 .nil=k0.tree:=by rw [hr];rfl
   rw [hg] at hR0;have HPL:=fun W (h:Keeps [] w W)=> plain_any k0 W (hk0o.keep h);have HNL:=fun W (h:Keeps [] w W)=> null_any k0 W (hk0o.keep h);obtain ⟨p,hp⟩:∃ p,p=plainP k0.tree:=⟨_,rfl⟩;obtain ⟨q,hq⟩:∃ q,q=nullP k0.tree:=⟨_,rfl⟩;simp only [←hp] at HPL hR0;simp only [←hq] at HNL hR0;subst a1;obtain ⟨op1,sa1,sc1,set1,ka1,kc1,kids1,mn1,mx1,mode1,n1,neg1⟩:=k0;have g:=hk0a.node;obtain ⟨e0,e1,e2,e3,e4,e5,e6,e7⟩:=id g;obtain ⟨d0,d1,d2,d3,d4,d5,d6,d7⟩:=HKX.o.c8 e0 e1 e2 e3 e4 e5 e6 e7;simp only [MRe.val] at HPL HNL;have HPL:=gi HPL;have HNL:=gi HNL;clear g e0 e1 e2 e3 e4 e5 e6 e7 hk0m hk00 hk0a hk0o hr hlen0 k1 f1 hno hg hp hq;have HR0:=gi hR0;clear hR0;obtain ⟨c0,c1,c2,c3,c4,c5,c6,c7⟩:=HC.o.cells0;go_enter Tryz.func91,Tryz.ntmps91
   go_upto_region 1 with fail
   rw [←HXE.o,←HBE.o];go_wp2_with fail
   refine Calls.mono (HPL.o _ HKX.o) ?_;rintro e w2 ⟨rfl,hk2⟩;have K2:=gi hk2;obtain ⟨u0,u1,u2,u3,u4,u5,u6,u7⟩:=K2.o.c8 c0 c1 c2 c3 c4 c5 c6 c7;obtain ⟨v0,v1,v2,v3,v4,v5,v6,v7⟩:=K2.o.c8 d0 d1 d2 d3 d4 d5 d6 d7;clear hk2 c0 c1 c2 c3 c4 c5 c6 c7 d0 d1 d2 d3 d4 d5 d6 d7 HPL
   cases p with
   | false=>
    have HR:=gi (show R=none from HR0.o.trans (if_neg (fun h=> by cases h.2.2.1)));obtain ⟨z0,z1,z2,z3,z4,z5,z6,z7,zf,HR2,HK2⟩:=nn HBE.o HKX.o K2.o HZ.o;go_wp2;refine rt HR2.o ?_;exact RulePost.of_none HR.o rfl HK2.o
   | true=>
    go_wp2_with fail
    refine Calls.mono (HNL.o _ (HKX.o.trans K2.o)) ?_;rintro e w3 ⟨rfl,hk3⟩;have K3:=gi (K2.o.trans hk3);clear hk3 u0 u1 u2 u3 u4 u5 u6 u7 v0 v1 v2 v3 v4 v5 v6 v7 HNL
    cases q with
    | false=>
     have HR:=gi (show R=none from HR0.o.trans (if_neg (fun h=> by cases h.2.2.2)));obtain ⟨z0,z1,z2,z3,z4,z5,z6,z7,zf,HR2,HK2⟩:=nn HBE.o HKX.o K3.o HZ.o;go_wp2;refine rt HR2.o ?_;exact RulePost.of_none HR.o rfl HK2.o
    | true=>
     have HR:=gi (show R=some Tree.nil from HR0.o.trans (if_pos (by simp)));obtain ⟨z0,z1,z2,z3,z4,z5,z6,z7,zf⟩:=zero_cells (K3.o.h HZ.o);obtain ⟨H1,H2,H3,H4⟩:=js (rule_store (op:=0) (sa:=none) (sc:=0) (set:=[]) (ka:=none) (kc:=0) (kids:=[]) (mn:=0) (mx:=0) (mode:=0) (n:=0) (neg:=false) HBE.o HKX.o K3.o HZ.o (MRe.OK.nil _) (show From (B + 2) (MRe.node 7 sa sc set (some ⟨b1,o1,none⟩) kc kids mn mx mode n false).blocks MRe.nil.blocks from fun x hx=> by simp [MRe.nil,MRe.blocks,MRe.blocksL,blockIf] at hx) HLT.o);go_wp2;refine rt H1.o ?_;exact RulePost.of_some MRe.nil HR.o rfl H2.o H3.o H4.o
 ·have HR:=gi (show R=none from hR0.trans (if_neg (fun h=> a1 h.1)));clear hR0;have hb:(op !=7)=true:=by simpa using a1
  clear k1 f1 hno;obtain ⟨c0,c1,c2,c3,c4,c5,c6,c7⟩:=HC.o.cells0;go_enter Tryz.func91,Tryz.ntmps91
  go_upto_region 1 with fail
  rw [←HXE.o,←HBE.o];obtain ⟨z0,z1,z2,z3,z4,z5,z6,z7,zf,HR2,HK2⟩:=nn HBE.o HKX.o HK0.o HZ.o;go_wp2;refine rt HR2.o ?_;exact RulePost.of_none HR.o rfl HK2.o
def ownR:Tree→Option Tree
 | .node op _ kids _ _ _ _ _=> if op=9∧(kids.getD 0 .nil).op=4∧(kids.getD 0 .nil).mode=0 then some (heldT (kids.getD 0 .nil)) else none
theorem own_any (m:MRe) (w:World) (k1:m.OK w) (f1:m.tree.WF):
  Calls Tryz.prog 93 #[m.val] w (RulePost w m.blocks (ownR m.tree)):=by
 obtain ⟨R,hR0⟩:∃ R,R=ownR m.tree:=⟨_,rfl⟩;rw [←hR0];obtain ⟨op,sa,sc,set,ka,kc,kids,mn,mx,mode,n,neg⟩:=m;have hno:=wf_node f1;obtain ⟨B,X,HBE,HXE,HC,HZ,hsz,HKX⟩:=pre0 w op sa sc set ka kc kids mn mx mode n neg;have HXS:=gi hsz;have HLT:=gi k1.block_lt;have HK0:=gi (Keeps.refl [] X);replace hR0:R=if op=9∧((MRe.trees kids).getD 0 .nil).op=4∧((MRe.trees kids).getD 0 .nil).mode=0 then some (heldT ((MRe.trees kids).getD 0 .nil)) else none:=hR0;simp only [MRe.val];clear hsz
 by_cases a1:op=9
 ·have hlen0:kids.length=1:=hno.hone (by simp [a1]);have hln0:0 < kids.length:=by omega
  have hln:(0:Int) < (kids.length:Int):=by omega
  obtain ⟨b1,o1,k0,rfl,hk0m,hk00,hk0a,hk0o⟩:=k1.kids.head hln0;obtain ⟨r,hr⟩:=trees_head hk00;have hg:(MRe.trees kids).getD 0 .nil=k0.tree:=by rw [hr];rfl
  rw [hg] at hR0;have HFR:=gi (show From (B + 2) (MRe.node op sa sc set (some ⟨b1,o1,none⟩) kc kids mn mx mode n neg).blocks k0.blocks from From.of_mem (blocks_kid hk0m));subst a1;obtain ⟨op1,sa1,sc1,set1,ka1,kc1,kids1,mn1,mx1,mode1,n1,neg1⟩:=k0;have hg1:(MRe.tree (.node op1 sa1 sc1 set1 ka1 kc1 kids1 mn1 mx1 mode1 n1 neg1)).op=op1:=rfl;have hg2:(MRe.tree (.node op1 sa1 sc1 set1 ka1 kc1 kids1 mn1 mx1 mode1 n1 neg1)).mode=mode1:=rfl;rw [hg1,hg2] at hR0;have HOK:=gi hk0o;have g:=hk0a.node;obtain ⟨e0,e1,e2,e3,e4,e5,e6,e7⟩:=id g;obtain ⟨d0,d1,d2,d3,d4,d5,d6,d7⟩:=HKX.o.c8 e0 e1 e2 e3 e4 e5 e6 e7;clear g e0 e1 e2 e3 e4 e5 e6 e7 hk0m hk00 hk0a hk0o hr hlen0 k1 f1 hno hg hg1 hg2
  by_cases a4:op1=4
  ·by_cases a0:mode1=0
   ·have HR:=gi (show R=some (heldT (MRe.tree (.node op1 sa1 sc1 set1 ka1 kc1 kids1 mn1 mx1 mode1 n1 neg1))) from hR0.trans (if_pos ⟨rfl,a4,a0⟩));clear hR0;subst a4 a0;obtain ⟨c0,c1,c2,c3,c4,c5,c6,c7⟩:=HC.o.cells0;go_enter Tryz.func93,Tryz.ntmps93
    go_upto_region 1 with fail
    rw [←HXE.o,←HBE.o];go_upto_region 4 with fail
    obtain ⟨C,hCe⟩:∃ C,C=X.heap.size:=⟨_,rfl⟩;obtain ⟨Y,hYe⟩:∃ Y,Y=X.alloc (.cells #[H J 4,M sa1 set1.length sc1,M ka1 kids1.length kc1,H J mn1,H J mx1,H J 0,H J n1,F neg1] 26):=⟨_,rfl⟩;have hkY:Keeps [] X Y:=by rw [hYe];exact Keeps.a1 _ _
    have hCH:Y.heap[C]? =some (.cells #[H J 4,M sa1 set1.length sc1,M ka1 kids1.length kc1,H J mn1,H J mx1,H J 0,H J n1,F neg1] 26 (0,0)):=by rw [hYe,hCe];exact heap_alloc_new X _
    rw [←hYe,←hCe];have KY:=gi hkY;have HCH:=gi hCH;have HCE:=gi hCe;obtain ⟨p0,p1,p2,p3,p4,p5,p6,p7⟩:=row_cells hCH;have pf:=row_frozen hCH;clear hCe hYe hkY hCH c0 c1 c2 c3 c4 c5 c6 c7 d0 d1 d2 d3 d4 d5 d6 d7;go_upto_region 5 with fail
    obtain ⟨V,hVe⟩:∃ V,V=Y.setCell ⟨C,5,none⟩ (H J 2):=⟨_,rfl⟩;have hkV:Keeps [C] Y V:=by rw [hVe];exact (Keeps.refl [C] Y).setCell (p:=⟨C,5,none⟩) (.inl (by simp)) _
    have hVC:V.heap[C]? =some (.cells #[H J 4,M sa1 set1.length sc1,M ka1 kids1.length kc1,H J mn1,H J mx1,H J 2,H J n1,F neg1] 26 (0,0)):=by rw [hVe];exact heap_setCell_same _ C 5 _ _ _ HCH.o
    rw [←hVe];obtain ⟨a0,a1,a2,a3,a4,a5,a6,a7⟩:=row_cells hVC;have KV:=gi (show Keeps [] X V from KY.o.after hkV (by intro x hx;simp at hx;subst hx;exact .inr (by rw [HCE.o];exact Nat.le_refl _)));obtain ⟨z0,z1,z2,z3,z4,z5,z6,z7,zf⟩:=zero_cells (KV.o.h HZ.o);have ho:MRe.OK V (.node 4 sa1 sc1 set1 ka1 kc1 kids1 mn1 mx1 2 n1 neg1):=.of (HOK.o.spans.keep (HKX.o.trans KV.o)) (HOK.o.kids.keep (HKX.o.trans KV.o));obtain ⟨hR,hok,hke,hfr2⟩:=rule_store HBE.o HKX.o KV.o HZ.o ho HFR.o HLT.o;have H1:=gi hR;have H2:=gi hok;have H3:=gi hke;have H4:=gi hfr2;clear hR hok hke hfr2 ho hVe hkV hVC p0 p1 p2 p3 p4 p5 p6 p7 pf;go_wp2;refine rt H1.o ?_;exact RulePost.of_some (.node 4 sa1 sc1 set1 ka1 kc1 kids1 mn1 mx1 2 n1 neg1) HR.o rfl H2.o H3.o H4.o
   ·have HR:=gi (show R=none from hR0.trans (if_neg (fun h=> a0 h.2.2)));clear hR0;have hb:(mode1 !=0)=true:=by simpa using a0
    subst a4;obtain ⟨c0,c1,c2,c3,c4,c5,c6,c7⟩:=HC.o.cells0;go_enter Tryz.func93,Tryz.ntmps93
    go_upto_region 1 with fail
    rw [←HXE.o,←HBE.o];obtain ⟨z0,z1,z2,z3,z4,z5,z6,z7,zf,HR2,HK2⟩:=nn HBE.o HKX.o HK0.o HZ.o;go_wp2;refine rt HR2.o ?_;exact RulePost.of_none HR.o rfl HK2.o
  ·have HR:=gi (show R=none from hR0.trans (if_neg (fun h=> a4 h.2.1)));clear hR0;have hb:(op1 !=4)=true:=by simpa using a4
   obtain ⟨c0,c1,c2,c3,c4,c5,c6,c7⟩:=HC.o.cells0;go_enter Tryz.func93,Tryz.ntmps93
   go_upto_region 1 with fail
   rw [←HXE.o,←HBE.o];obtain ⟨z0,z1,z2,z3,z4,z5,z6,z7,zf,HR2,HK2⟩:=nn HBE.o HKX.o HK0.o HZ.o;go_wp2;refine rt HR2.o ?_;exact RulePost.of_none HR.o rfl HK2.o
 ·have HR:=gi (show R=none from hR0.trans (if_neg (fun h=> a1 h.1)));clear hR0;have hb:(op !=9)=true:=by simpa using a1
  clear k1 f1 hno;obtain ⟨c0,c1,c2,c3,c4,c5,c6,c7⟩:=HC.o.cells0;go_enter Tryz.func93,Tryz.ntmps93
  go_upto_region 1 with fail
  rw [←HXE.o,←HBE.o];obtain ⟨z0,z1,z2,z3,z4,z5,z6,z7,zf,HR2,HK2⟩:=nn HBE.o HKX.o HK0.o HZ.o;go_wp2;refine rt HR2.o ?_;exact RulePost.of_none HR.o rfl HK2.o
theorem swap_from {S lo:Nat} {src add l:List Nat} (h:From S (src ++ add) l) (ha:∀ x∈add,x∈src∨lo≤x) (hs:lo≤S):From lo src l:=fun x hx=> by
 rcases h x hx with h | h
 ·rcases List.mem_append.1 h with h | h
  ·exact .inl h
  ·exact ha x h
 ·exact .inr (Nat.le_trans hs h)
theorem swap0_any (m:MRe) (i:Nat) (w:World) (k1:m.OK w) (hi:i < m.kids.length) (hb:m.kids.length≤100000):
  Calls Tryz.prog 114 #[m.val,H J (i:Int),H J ((i:Int) + 1),M none 0 0] w fun e w'=> ∃ r:MRe,e=.returned (.tuple #[r.val,F true])∧r.tree=swapT m.tree.op m.tree.kids i (i + 1) []∧r.OK w'∧Keeps [] w w'∧From w.heap.size (m.blocks ++ []) r.blocks:=by
 have h:=swap_any m i (i + 1) none 0 [] w k1 (KidsIn.nil w) (by omega) (by omega) (by omega) (by simp;omega);rw [show ((i + 1:Nat):Int)=(i:Int) + 1 by omega] at h;exact h
def idxO:Option Nat→Int
 | none=> -1
 | some i=> i
theorem idxI_eq (p:Tree→Bool) (l:List Tree):idxI p l=idxO (l.findIdx? p):=rfl
theorem findIdx_lt {p:Tree→Bool} {l:List Tree} {i:Nat} (h:l.findIdx? p=some i):i < l.length:=(List.findIdx?_eq_some_iff_getElem.1 h).1
theorem unit1_any (m:MRe) (w:World):Calls Tryz.prog 113 #[m.val] w fun e w'=> e=.returned (F (m.tree.op==0))∧Keeps [] w w':=by
 obtain ⟨op1,sa1,sc1,set1,ka1,kc1,kids1,mn1,mx1,mode1,n1,neg1⟩:=m;have ho:(MRe.tree (.node op1 sa1 sc1 set1 ka1 kc1 kids1 mn1 mx1 mode1 n1 neg1)).op=op1:=rfl;rw [ho];simp only [MRe.val];clear ho
 by_cases h:op1=0
 ·subst h;go_enter Tryz.func113,Tryz.ntmps113
  go_wp2;go_ret;exact ⟨rfl,Keeps.a1 _ _⟩
 ·have hb:(op1==0)=false:=by simpa using h
  rw [hb];go_enter Tryz.func113,Tryz.ntmps113
  go_wp2;go_ret;exact ⟨rfl,Keeps.a1 _ _⟩
theorem enters_unit1:Enters 113:=enters_of Tryz.func113 (by kernel_rfl) rfl
def unitR (t:Tree):Option Tree:=if t.op=2 then (t.kids.findIdx? fun k=> k.op==0).map fun i=> swapT 2 t.kids i (i + 1) [] else none
theorem unit_any (m:MRe) (w:World) (k1:m.OK w) (hb:m.tree.bulk≤100000):
  Calls Tryz.prog 79 #[m.val] w (RulePost w m.blocks (unitR m.tree)):=by
 obtain ⟨R,hR0⟩:∃ R,R=unitR m.tree:=⟨_,rfl⟩;rw [←hR0];have HSW:=gi (fun (W:World) (h:Keeps [] w W) (i:Nat)=> swap0_any m i W (k1.keep h));have HLT:=gi k1.block_lt;obtain ⟨op,sa,sc,set,ka,kc,kids,mn,mx,mode,n,neg⟩:=m;have HBK:=gi (kids_bulk hb).1;obtain ⟨B,X,HBE,HXE,HC,HZ,hsz,HKX⟩:=pre0 w op sa sc set ka kc kids mn mx mode n neg;have HXS:=gi hsz;have HK0:=gi (Keeps.refl [] X);replace hR0:R=if op=2 then ((MRe.trees kids).findIdx? fun k=> k.op==0).map fun i=> swapT 2 (MRe.trees kids) i (i + 1) [] else none:=hR0;simp only [MRe.val];have HIF:=gi (fun (W:World) (h:Keeps [] w W)=> indexFunc_any 113 #[] (fun k=> k.op==0) ka kc kids W enters_unit1 (k1.kids.keep h) (fun k _ V _=> unit1_any k V));clear hsz hb k1
 by_cases a1:op=2
 ·subst a1;rw [if_pos rfl] at hR0;obtain ⟨o,ho⟩:∃ o,o=(MRe.trees kids).findIdx? fun k=> k.op==0:=⟨_,rfl⟩;rw [←ho] at hR0
  cases o with
  | none=>
   have HR:=gi (show R=none from hR0);clear hR0;rw [idxI_eq,←ho] at HIF;dsimp only [idxO] at HIF;clear ho;obtain ⟨c0,c1,c2,c3,c4,c5,c6,c7⟩:=HC.o.cells0;go_enter Tryz.func79,Tryz.ntmps79
   go_upto_region 1 with fail
   rw [←HXE.o,←HBE.o];go_wp2_with fail
   refine Calls.mono (HIF.o _ HKX.o) ?_;rintro e w2 ⟨rfl,hk2⟩;have K2:=gi hk2;clear hk2;obtain ⟨z0,z1,z2,z3,z4,z5,z6,z7,zf,HR2,HK2⟩:=nn HBE.o HKX.o K2.o HZ.o;go_wp2;refine rt HR2.o ?_;exact RulePost.of_none HR.o rfl HK2.o
  | some i=>
   have hlt:=findIdx_lt ho.symm;rw [MRe.trees_length] at hlt;have HRT:=gi (fun (q0:MRe) (h:q0.tree=swapT 2 (MRe.trees kids) i (i + 1) [])=> show R=some q0.tree by rw [hR0,h];rfl);have HADD:=gi (show ∀ x∈([]:List Nat),x∈(MRe.node 2 sa sc set ka kc kids mn mx mode n neg).blocks∨B + 2≤x from fun _ h=> by simp at h);have hw1:IntKind.i64.wrap ((i:Int) + 1)=(i:Int) + 1:=IntWalk.i64_in _ (by have:=HBK.o;omega);have hi0:(0:Int)≤(i:Int):=by omega
   have hi1:¬ (i:Int) < 0:=by omega
   rw [idxI_eq,←ho] at HIF;dsimp only [idxO] at HIF;clear ho hR0;obtain ⟨c0,c1,c2,c3,c4,c5,c6,c7⟩:=HC.o.cells0;go_enter Tryz.func79,Tryz.ntmps79
   go_upto_region 1 with fail
   rw [←HXE.o,←HBE.o];go_wp2_with fail
   refine Calls.mono (HIF.o _ HKX.o) ?_;rintro e w2 ⟨rfl,hk2⟩;have KC:=gi hk2;obtain ⟨u0,u1,u2,u3,u4,u5,u6,u7⟩:=KC.o.c8 c0 c1 c2 c3 c4 c5 c6 c7;have HS:=gi (HSW.o _ (HKX.o.trans hk2) i hlt HBK.o);clear hk2 c0 c1 c2 c3 c4 c5 c6 c7;go_wp2_with fail
   refine Calls.mono HS.o ?_;rintro e w8 ⟨q,rfl,hqt,hqo,hk8,hqf⟩;have E8:=gi hk8;have K8:=gi (KC.o.trans hk8);have QT:=gi hqt;have QO:=gi hqo;have QF:=gi hqf;obtain ⟨q0,hq0⟩:∃ q0,q0=q:=⟨_,rfl⟩;rw [←hq0] at QT QO QF;have Q0:=gi hq0;clear hqt hqo hk8 hqf hq0;obtain ⟨op9,sa9,sc9,set9,ka9,kc9,kids9,mn9,mx9,mode9,n9,neg9⟩:=q;simp only [MRe.val];obtain ⟨z0,z1,z2,z3,z4,z5,z6,z7,zf⟩:=zero_cells (K8.o.h HZ.o);clear u0 u1 u2 u3 u4 u5 u6 u7;go_wp2;have hfr:=swap_from QF.o HADD.o (Nat.le_trans HXS.o KC.o.size);rw [Q0.o] at hfr;obtain ⟨hR,hok,hke,hfr2⟩:=rule_store HBE.o HKX.o K8.o HZ.o (by rw [←Q0.o];exact QO.o) hfr HLT.o;refine rt hR ?_;exact RulePost.of_some (.node op9 sa9 sc9 set9 ka9 kc9 kids9 mn9 mx9 mode9 n9 neg9) (by rw [←Q0.o];exact HRT.o q0 QT.o) rfl hok hke hfr2
 ·have HR:=gi (show R=none from hR0.trans (if_neg a1));clear hR0;have hbb:(op !=2)=true:=by simpa using a1
  obtain ⟨c0,c1,c2,c3,c4,c5,c6,c7⟩:=HC.o.cells0;go_enter Tryz.func79,Tryz.ntmps79
  go_upto_region 1 with fail
  rw [←HXE.o,←HBE.o];obtain ⟨z0,z1,z2,z3,z4,z5,z6,z7,zf,HR2,HK2⟩:=nn HBE.o HKX.o HK0.o HZ.o;go_wp2;refine rt HR2.o ?_;exact RulePost.of_none HR.o rfl HK2.o
theorem enters_inline1:Enters 140:=enters_of Tryz.func140 (by kernel_rfl) rfl
theorem inline1_any (m:MRe) (o:Int) (g:Nat) (w:World) (hg:w.cell? ⟨g,0,none⟩=some (H J o)):Calls Tryz.prog 140 #[m.val,.pointer (some ⟨g,0,none⟩)] w fun e w'=> e=.returned (F (m.tree.op==o))∧Keeps [] w w':=by
 obtain ⟨op1,sa1,sc1,set1,ka1,kc1,kids1,mn1,mx1,mode1,n1,neg1⟩:=m;have ho:(MRe.tree (.node op1 sa1 sc1 set1 ka1 kc1 kids1 mn1 mx1 mode1 n1 neg1)).op=op1:=rfl;rw [ho];simp only [MRe.val];have hg':=(Keeps.a1 w (.cells #[H J op1,M sa1 set1.length sc1,M ka1 kids1.length kc1,H J mn1,H J mx1,H J mode1,H J n1,F neg1] 26)).c hg;clear ho
 by_cases h:op1=o
 ·subst h;have hb:(op1==op1)=true:=by simp
  rw [hb];go_enter Tryz.func140,Tryz.ntmps140
  go_wp2;go_ret;exact ⟨rfl,Keeps.a1 _ _⟩
 ·have hb:(op1==o)=false:=by simpa using h
  rw [hb];go_enter Tryz.func140,Tryz.ntmps140
  go_wp2;go_ret;exact ⟨rfl,Keeps.a1 _ _⟩
def inlineR (o:Int) (t:Tree):Option Tree:=if t.op=o then (t.kids.findIdx? fun k=> k.op==o).map fun i=> swapT t.op t.kids i (i + 1) (t.kids.getD i .nil).kids else none
theorem rule_storeG {w X W:World} {G T:Nat} {src:List Nat} {op sa sc set ka kc kids mn mx mode n neg} (hG:w.heap.size≤G) (kX:Keeps [] w X) (kW:Keeps [] X W) (hz:X.heap[G]? =some (.cells #[H J 0,M none 0 0,M none 0 0,H J 0,H J 0,H J 0,H J 0,F false] T (0,0)))
  (qo:MRe.OK W (.node op sa sc set ka kc kids mn mx mode n neg)) (qf:From (G + 1) src (MRe.node op sa sc set ka kc kids mn mx mode n neg).blocks) (hlt:∀ b∈src,b < w.heap.size):
  (set8 W G (H J op) (M sa set.length sc) (M ka kids.length kc) (H J mn) (H J mx) (H J mode) (H J n) (F neg)).heap[G]? =some (.cells #[H J op,M sa set.length sc,M ka kids.length kc,H J mn,H J mx,H J mode,H J n,F neg] T (0,0))∧
  MRe.OK (set8 W G (H J op) (M sa set.length sc) (M ka kids.length kc) (H J mn) (H J mx) (H J mode) (H J n) (F neg)) (.node op sa sc set ka kc kids mn mx mode n neg)∧
  Keeps [] w (set8 W G (H J op) (M sa set.length sc) (M ka kids.length kc) (H J mn) (H J mx) (H J mode) (H J n) (F neg))∧
  From w.heap.size src (MRe.node op sa sc set ka kc kids mn mx mode n neg).blocks:=by
 have hk8:=set8_keeps W G (H J op) (M sa set.length sc) (M ka kids.length kc) (H J mn) (H J mx) (H J mode) (H J n) (F neg);refine ⟨set8_heap (kW.h hz) _ _ _ _ _ _ _ _,qo.keepS hk8 fun b hb=> ?_,(kX.trans kW).after hk8 (by intro x hx;simp at hx;subst hx;exact .inr hG),fun b hb=> ?_⟩
 ·rcases qf b hb with h | h
  ·have:=hlt b h;simp;omega
  ·simp;omega
 ·rcases qf b hb with h | h
  ·exact .inl h
  ·exact .inr (by omega)
theorem inline_any (m:MRe) (o:Int) (w:World) (k1:m.OK w) (hb:m.tree.bulk≤100000):
  Calls Tryz.prog 111 #[m.val,H J o] w (RulePost w m.blocks (inlineR o m.tree)):=by
 obtain ⟨R,hR0⟩:∃ R,R=inlineR o m.tree:=⟨_,rfl⟩;rw [←hR0];have HSW:=gi (fun (W:World) (h:Keeps [] w W) (i:Nat)=> swap_any m i (i + 1));have HLT:=gi k1.block_lt;obtain ⟨op,sa,sc,set,ka,kc,kids,mn,mx,mode,n,neg⟩:=m;have HBK:=gi (kids_bulk hb).1;have HBB:=gi (kids_bulk hb).2.2;obtain ⟨B,hBe⟩:∃ B,B=w.heap.size:=⟨_,rfl⟩;obtain ⟨X,hXe⟩:∃ X,X=((w.alloc (.cells #[H J op,M sa set.length sc,M ka kids.length kc,H J mn,H J mx,H J mode,H J n,F neg] 26)).alloc (.cells #[H J o] 3)).alloc (.cells #[H J 0,M none 0 0,M none 0 0,H J 0,H J 0,H J 0,H J 0,F false] 26):=⟨_,rfl⟩;have hkX:Keeps [] w X:=by rw [hXe];exact Keeps.a3 _ _ _ _
 have hsz:B + 3≤X.heap.size:=by rw [hXe,hBe];simp
 have hz:X.heap[B + 1 + 1]? =some (.cells #[H J 0,M none 0 0,M none 0 0,H J 0,H J 0,H J 0,H J 0,F false] 26 (0,0)):=by
  rw [hXe,hBe];have h:=heap_alloc_new ((w.alloc (.cells #[H J op,M sa set.length sc,M ka kids.length kc,H J mn,H J mx,H J mode,H J n,F neg] 26)).alloc (.cells #[H J o] 3)) (.cells #[H J 0,M none 0 0,M none 0 0,H J 0,H J 0,H J 0,H J 0,F false] 26)
  simpa using h
 have hq:X.cell? ⟨B + 1,0,none⟩=some (H J o):=by
  rw [hXe,hBe];exact (Keeps.a1 _ _).cell (cell_of_row (heap_alloc2_new w _ _)) (by simp)
 have hx:X.heap[B]? =some (.cells #[H J op,M sa set.length sc,M ka kids.length kc,H J mn,H J mx,H J mode,H J n,F neg] 26 (0,0)):=by
  rw [hXe,hBe];exact (Keeps.a2 _ _ _).heap (heap_alloc_new w _) (by simp)
 have HBE:=gi hBe;have HXE:=gi hXe;have HKX:=gi hkX;have HXS:=gi hsz;have HZ:=gi hz;obtain ⟨c0,c1,c2,c3,c4,c5,c6,c7⟩:=row_cells hx;have HK0:=gi (Keeps.refl [] X);replace hR0:R=if op=o then ((MRe.trees kids).findIdx? fun k=> k.op==o).map fun i=> swapT op (MRe.trees kids) i (i + 1) ((MRe.trees kids).getD i .nil).kids else none:=hR0;simp only [MRe.val];have HIF:=gi (indexFunc_any 140 #[.pointer (some ⟨B + 1,0,none⟩)] (fun k=> k.op==o) ka kc kids X enters_inline1 (k1.kids.keep hkX) (fun k _ V hV=> inline1_any k o (B + 1) V (hV.c hq)));have K1:=gi k1;have hmf:∀ (fn:Fn) (first cap:Array Value) (w:World),(Instr.makeFunc fn first cap).run Tryz.prog w=.ok (.func fn first cap) w:=fun _ _ _ _=> rfl;clear hsz hb k1 hBe hXe hkX hz hx
 by_cases a1:op=o
 ·subst a1;have hne:(op !=op)=false:=by simp
  rw [if_pos rfl] at hR0;obtain ⟨oo,ho⟩:∃ oo,oo=(MRe.trees kids).findIdx? fun k=> k.op==op:=⟨_,rfl⟩;rw [←ho] at hR0
  cases oo with
  | none=>
   rw [idxI_eq,←ho] at HIF;dsimp only [idxO] at HIF;have HR:=gi (show R=none from hR0);clear ho hR0;go_enter Tryz.func111,Tryz.ntmps111
   go_upto_region 1 with fail
   rw [←HXE.o,←HBE.o];go_wp2_with fail
   refine Calls.mono HIF.o ?_;rintro e w2 ⟨rfl,hk2⟩;have K2:=gi hk2;clear hk2;obtain ⟨z0,z1,z2,z3,z4,z5,z6,z7,zf⟩:=zero_cells (K2.o.h HZ.o);obtain ⟨hR,hok,hke,hfr2⟩:=rule_storeG (op:=0) (sa:=none) (sc:=0) (set:=[]) (ka:=none) (kc:=0) (kids:=[]) (mn:=0) (mx:=0) (mode:=0) (n:=0) (neg:=false) (by rw [←HBE.o];omega) HKX.o K2.o HZ.o (MRe.OK.nil _) (fun x hx=> by simp [MRe.blocks,MRe.blocksL,blockIf] at hx) HLT.o;have H1:=gi hR;have H3:=gi hke;clear hR hok hke hfr2;go_wp2;refine rt H1.o ?_;exact RulePost.of_none HR.o rfl H3.o
  | some i=>
   have hlt:=findIdx_lt ho.symm;rw [MRe.trees_length] at hlt;have hg:(MRe.trees kids).getD i .nil=kids[i].tree:=by rw [List.getD_eq_getElem?_getD,List.getElem?_eq_getElem (by rw [MRe.trees_length];omega),Option.getD_some,trees_getElem]
   obtain ⟨b,off,rfl,hbb,hxk⟩:=K1.o.nodes.kid (by omega);have hak:=hxk i hlt;have hok:=K1.o.kid (List.getElem_mem hlt);have hbl:=blocks_kid (op:=op) (sa:=sa) (sc:=sc) (set:=set) (ka:=some ⟨b,off,none⟩) (kc:=kc) (mn:=mn) (mx:=mx) (mode:=mode) (n:=n) (neg:=neg) (List.getElem_mem hlt);have hbk:=HBB.o _ (List.getElem_mem hlt);have hcap:=K1.o.nodes.cap;have hle:=K1.o.nodes.le;unfold maxLen at hcap;obtain ⟨k0,hk0⟩:∃ k0,k0=kids[i]:=⟨_,rfl⟩;rw [←hk0] at hg hak hok hbl hbk;obtain ⟨op1,sa1,sc1,set1,ka1,kc1,kids1,mn1,mx1,mode1,n1,neg1⟩:=k0;have hbk1:=(kids_bulk hbk).1;have HRT:=gi (fun (q0:MRe) (h:q0.tree=swapT op (MRe.trees kids) i (i + 1) (MRe.trees kids1))=> show R=some q0.tree by rw [hR0,h,Option.map_some,hg];rfl);have HADD:=gi (show ∀ x∈MRe.blocksL kids1,x∈(MRe.node op sa sc set (some ⟨b,off,none⟩) kc kids mn mx mode n neg).blocks∨B + 1 + 1 + 1≤x from fun x hx=> .inl (hbl x (by simp only [MRe.blocks,List.mem_append];exact .inr (.inr hx))));have HKI:=gi hok.kids;have x2:=HKX.o.cell hak.node.c2 (by simp);have hw1:IntKind.i64.wrap ((i:Int) + 1)=(i:Int) + 1:=IntWalk.i64_in _ (by have:=HBK.o;omega);have hi0:(0:Int)≤(i:Int):=by omega
   have hi1:¬ (i:Int) < 0:=by omega
   have hi2:(i:Int) < (kids.length:Int):=by omega
   have HLN:=gi hbk1;rw [idxI_eq,←ho] at HIF;dsimp only [idxO] at HIF;clear hR0 ho hg hxk hak hok hbl hbk hk0 hbk1;go_enter Tryz.func111,Tryz.ntmps111
   go_upto_region 1 with fail
   rw [←HXE.o,←HBE.o];go_wp2_with fail
   refine Calls.mono HIF.o ?_;rintro e w2 ⟨rfl,hk2⟩;have KC:=gi hk2.drew;obtain ⟨u0,u1,u2,u3,u4,u5,u6,u7⟩:=hk2.c8 c0 c1 c2 c3 c4 c5 c6 c7;have y2:=hk2.c x2;have hs:=HSW.o w2 (HKX.o.trans hk2) i ka1 kc1 kids1 w2.drew (K1.o.keep ((HKX.o.trans hk2).drew)) (HKI.o.keep ((HKX.o.trans hk2).drew)) (by omega) (by show i + 1≤kids.length;omega) (by show 0 < kids.length;omega) (by show kids.length + kids1.length≤1000000;have:=HBK.o;have:=HLN.o;omega);rw [show ((i + 1:Nat):Int)=(i:Int) + 1 by omega] at hs;have HS:=gi hs;clear hk2 c0 c1 c2 c3 c4 c5 c6 c7 x2 hq hs;go_wp2;refine rg (S:=fun w'=> (w'.cell? ⟨B,0,none⟩=some (H J op)∧w'.cell? ⟨B,1,none⟩=some (M sa set.length sc)∧w'.cell? ⟨B,2,none⟩=some (M (some ⟨b,off,none⟩) kids.length kc)∧w'.cell? ⟨B,3,none⟩=some (H J mn)∧w'.cell? ⟨B,4,none⟩=some (H J mx)∧w'.cell? ⟨B,5,none⟩=some (H J mode)∧w'.cell? ⟨B,6,none⟩=some (H J n)∧w'.cell? ⟨B,7,none⟩=some (F neg))∧w'.cell? ⟨b,off + i * 8 + 2,none⟩=some (M ka1 kids1.length kc1)) (fun _ k=> ⟨⟨k.c u0,k.c u1,k.c u2,k.c u3,k.c u4,k.c u5,k.c u6,k.c u7⟩,k.c y2⟩) fun kz hHeld=> ?_;refine tk 0 ?_;refine tk 1 ?_;refine tk 2 ?_;refine tk 3 ?_;refine tk 4 ?_;refine tk 5 ?_;refine tk 6 ?_;refine tk 7 ?_;refine tk 8 ?_;refine tk 9 ?_;refine j6 10 fun K hK=> ?_;go_simp
   go_at_call 114
   refine Calls.mono HS.o ?_;rintro e w8 ⟨q,rfl,hqt,hqo,hk8,hqf⟩;have E8:=gi hk8;have K8:=gi (KC.o.trans hk8);have QT:=gi hqt;have QO:=gi hqo;have QF:=gi hqf;obtain ⟨q0,hq0⟩:∃ q0,q0=q:=⟨_,rfl⟩;rw [←hq0] at QT QO QF;have Q0:=gi hq0;clear hqt hqo hk8 hqf hq0;obtain ⟨op9,sa9,sc9,set9,ka9,kc9,kids9,mn9,mx9,mode9,n9,neg9⟩:=q;simp only [MRe.val];have E9:=gi ((Keeps.refl [] w2).drew.trans E8.o);obtain ⟨z0,z1,z2,z3,z4,z5,z6,z7,zf⟩:=zero_cells (K8.o.h HZ.o);refine hK.out _ _ (kz.o _ E9.o) fun hHeld=> ?_;clear hK K;try go_frame
   refine tk 11 ?_;refine tk 12 ?_;refine j6 13 fun K hK=> ?_;go_simp;have hbB:b < B:=by rw [HBE.o];exact hbb
   have E10:=gi ((E9.o.mono (S':=[B + 1 + 1]) (by simp)).trans (set8_keeps w8 (B + 1 + 1) (H J op9) (M sa9 set9.length sc9) (M ka9 kids9.length kc9) (H J mn9) (H J mx9) (H J mode9) (H J n9) (F neg9)));refine hK.out _ _ (⟨⟨E10.o.cell u0 (by simp <;> omega),E10.o.cell u1 (by simp <;> omega),E10.o.cell u2 (by simp <;> omega),E10.o.cell u3 (by simp <;> omega),E10.o.cell u4 (by simp <;> omega),E10.o.cell u5 (by simp <;> omega),E10.o.cell u6 (by simp <;> omega),E10.o.cell u7 (by simp <;> omega)⟩,E10.o.cell y2 (by simp <;> omega)⟩) (fun hHeld=> ?_);clear hK K;try go_frame
   refine tk 14 ?_;refine wd ?_;have hfr:=swap_from QF.o HADD.o (Nat.le_trans (show B + 1 + 1 + 1≤X.heap.size from HXS.o) KC.o.size);rw [Q0.o] at hfr;obtain ⟨hR,hok,hke,hfr2⟩:=rule_storeG (by rw [←HBE.o];omega) HKX.o K8.o HZ.o (by rw [←Q0.o];exact QO.o) hfr HLT.o;have H1:=gi hR;have H2:=gi hok;have H3:=gi hke;have H4:=gi hfr2;clear hR hok hke hfr2 hfr z0 z1 z2 z3 z4 z5 z6 z7 zf u0 u1 u2 u3 u4 u5 u6 u7 y2 hHeld;go_wp2;refine rt H1.o ?_;exact RulePost.of_some (.node op9 sa9 sc9 set9 ka9 kc9 kids9 mn9 mx9 mode9 n9 neg9) (by rw [←Q0.o];exact HRT.o q0 QT.o) rfl H2.o H3.o H4.o
 ·have HR:=gi (show R=none from hR0.trans (if_neg a1));have hbb:(op !=o)=true:=by simpa using a1
  clear hR0;go_enter Tryz.func111,Tryz.ntmps111
  go_upto_region 1 with fail
  rw [←HXE.o,←HBE.o];obtain ⟨z0,z1,z2,z3,z4,z5,z6,z7,zf⟩:=zero_cells HZ.o;obtain ⟨hR,hok,hke,hfr2⟩:=rule_storeG (op:=0) (sa:=none) (sc:=0) (set:=[]) (ka:=none) (kc:=0) (kids:=[]) (mn:=0) (mx:=0) (mode:=0) (n:=0) (neg:=false) (by rw [←HBE.o];omega) HKX.o HK0.o HZ.o (MRe.OK.nil _) (fun x hx=> by simp [MRe.blocks,MRe.blocksL,blockIf] at hx) HLT.o;have H1:=gi hR;have H3:=gi hke;clear hR hok hke hfr2;go_wp2;refine rt H1.o ?_;exact RulePost.of_none HR.o rfl H3.o
end Go.Proofs.YtjnlkjlbejelgaaGreat
