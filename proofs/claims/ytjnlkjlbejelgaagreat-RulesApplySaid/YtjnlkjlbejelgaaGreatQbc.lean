/- Part 29 of the proof. No condition: every lemma says its own. -/
import Derived.Test.YtjnlkjlbejelgaaGreatQaz
import Derived.Test.YtjnlkjlbejelgaaGreatQba
import Derived.Test.YtjnlkjlbejelgaaGreatQbb
import Derived.Test.YtjnlkjlbejelgaaGreatQaw
namespace Go.Proofs.YtjnlkjlbejelgaaGreat
open Go.RowKit
open Go.Value renaming int→H,slice→M,bool→F
open Go.IntKind renaming i64→J
set_option maxRecDepth 100000
set_option maxHeartbeats 16000000
def nbR (o:Int) (p:Tree→Tree→Bool) (res:Tree→Tree→Tree) (t:Tree):Option Tree:=
 if t.op=o then (nbO p t.kids).map fun i=> swapT t.op t.kids i (i + 2) [res (t.kids.getD i .nil) (t.kids.getD (i + 1) .nil)] else none
theorem applyZ (w:World) (m:MRe) (T:Nat):∃ X:World,X=((w.alloc (.cells m.row.toArray T)).alloc (.cells #[H J 0,M none 0 0,M none 0 0,H J 0,H J 0,H J 0,H J 0,F false] T)).alloc (.cells #[H J 0,M none 0 0,M none 0 0,H J 0,H J 0,H J 0,H J 0,F false] T)∧At8 X w.heap.size 0 m∧X.heap[w.heap.size + 1]? =some (.cells #[H J 0,M none 0 0,M none 0 0,H J 0,H J 0,H J 0,H J 0,F false] T (0,0))∧X.heap[w.heap.size + 1 + 1]? =some (.cells #[H J 0,M none 0 0,M none 0 0,H J 0,H J 0,H J 0,H J 0,F false] T (0,0))∧w.heap.size + 2≤X.heap.size∧Keeps [] w X:=by
 refine ⟨_,rfl,(boxZ w m T).1.keep (Keeps.a1 _ _),(Keeps.a1 _ _).heap (boxZ w m T).2.1 (by simp),?_,by simp,Keeps.a3 _ _ _ _⟩;have h:=heap_alloc_new ((w.alloc (.cells m.row.toArray T)).alloc (.cells #[H J 0,M none 0 0,M none 0 0,H J 0,H J 0,H J 0,H J 0,F false] T)) (.cells #[H J 0,M none 0 0,M none 0 0,H J 0,H J 0,H J 0,H J 0,F false] T)
 simpa using h
theorem rapply4_any (m:MRe) (w:World) (k1:m.OK w) (f1:m.tree.WF) (hb:m.tree.bulk≤100000):
  Calls Tryz.prog 12 #[H J 4,m.val] w (RulePost w m.blocks (nbR 3 headP headRes m.tree)):=by
 obtain ⟨R,hR0⟩:∃ R,R=nbR 3 headP headRes m.tree:=⟨_,rfl⟩;rw [←hR0];have hC:=fun (W:World) (h:Keeps [] w W) (ho:m.tree.op=3)=> pairs_any 4 headP headRes m W (k1.keep h) f1 (by rw [ho];decide) hb (fun a b V ha hb fa fb ba bb=> rpair4_any a b V ha hb fa fb ba bb);have hoR:m.tree.op=3→nbR 3 headP headRes m.tree=R:=fun _=> hR0.symm;have hoN:m.tree.op≠3→R=none:=fun h=> by rw [hR0];unfold nbR;rw [if_neg h]
 have hC:=fun (W:World) (h:Keeps [] w W) (ho:m.tree.op=3)=> (show Calls Tryz.prog 50 #[H J 4,m.val] W (RulePost W m.blocks R) from by rw [hR0];unfold nbR;rw [if_pos ho];exact hC W h ho);have HLT:=gi k1.block_lt;have hop:m.tree.op=(match m with | .node op _ _ _ _ _ _ _ _ _ _ _=> op):=by cases m;rfl
 obtain ⟨op,sa,sc,set,ka,kc,kids,mn,mx,mode,n,neg⟩:=m;replace hop:(MRe.tree (.node op sa sc set ka kc kids mn mx mode n neg)).op=op:=rfl;rw [hop] at hoN;obtain ⟨B,hBe⟩:∃ B,B=w.heap.size:=⟨_,rfl⟩;obtain ⟨X,hXe,hb8,hz,hzn,hsz,hkX⟩:=applyZ w (.node op sa sc set ka kc kids mn mx mode n neg) 26;simp only [MRe.row] at hXe;rw [←hBe] at hb8 hz hzn hsz;have HBE:=gi hBe;have HXE:=gi hXe;have HC:=gi hb8;have HZ:=gi hz;have HZN:=gi hzn;have HKX:=gi hkX;have HXS:=gi hsz;simp only [MRe.val] at hC ⊢
 by_cases ho:op=3
 ·have HI:=gi (fun (W:World) (h:Keeps [] w W)=> hC W h ho);obtain ⟨R1,hR1⟩:∃ R1,R1=R:=⟨_,rfl⟩;rw [←hR1];have HR1:=gi hR1;clear hR0 hR1 hC hoN hoR hBe hXe hb8 hz hzn hsz hkX k1 f1 hb hop;subst ho;obtain ⟨c0,c1,c2,c3,c4,c5,c6,c7⟩:=HC.o.cells0;go_enter Tryz.func12,Tryz.ntmps12
  go_upto_region 2 with fail
  rw [←HXE.o,←HBE.o];go_wp2_with fail
  refine Calls.mono (HI.o _ HKX.o) ?_;intro e w2 hor
  cases R with
  | none=>
   obtain ⟨rfl,hk2⟩:=hor;have K2:=gi hk2;have HR:=gi (show R1=none from HR1.o);clear hk2 c0 c1 c2 c3 c4 c5 c6 c7;obtain ⟨z0,z1,z2,z3,z4,z5,z6,z7,zf,HR2,HK2⟩:=nn HBE.o HKX.o K2.o HZ.o;go_wp2;refine rt HR2.o ?_;exact RulePost.of_none HR.o rfl HK2.o
  | some t=>
   obtain ⟨q,rfl,hqt,hqo,hk8,hqf⟩:=hor;have K8:=gi hk8;have QT:=gi hqt;have QO:=gi hqo;have QF:=gi (swap_from (lo:=B + 2) (add:=[]) (by rw [List.append_nil];exact hqf) (fun _ h=> by simp at h) HXS.o);obtain ⟨q0,hq0⟩:∃ q0,q0=q:=⟨_,rfl⟩;rw [←hq0] at QT QO QF;have Q0:=gi hq0;clear hqt hqo hk8 hqf hq0 c0 c1 c2 c3 c4 c5 c6 c7;obtain ⟨op9,sa9,sc9,set9,ka9,kc9,kids9,mn9,mx9,mode9,n9,neg9⟩:=q;simp only [MRe.val];obtain ⟨z0,z1,z2,z3,z4,z5,z6,z7,zf⟩:=zero_cells (K8.o.h HZ.o);go_wp2;have hfr:=QF.o;rw [Q0.o] at hfr;obtain ⟨hR,hok,hke,hfr2⟩:=rule_store HBE.o HKX.o K8.o HZ.o (by rw [←Q0.o];exact QO.o) hfr HLT.o;refine rt hR ?_;exact RulePost.of_some (.node op9 sa9 sc9 set9 ka9 kc9 kids9 mn9 mx9 mode9 n9 neg9) (by rw [HR1.o,←Q0.o,QT.o]) rfl hok hke hfr2
 ·have HR:=gi (hoN ho);have hob:(op==3)=false:=by simpa using ho
  have HK0:=gi (Keeps.refl [] X);clear hR0 hC hoN hoR hBe hXe hb8 hz hzn hsz hkX k1 f1 hb hop;obtain ⟨c0,c1,c2,c3,c4,c5,c6,c7⟩:=HC.o.cells0;obtain ⟨y0,y1,y2,y3,y4,y5,y6,y7,yf⟩:=zero_cells HZN.o;go_enter Tryz.func12,Tryz.ntmps12
  go_upto_region 2 with fail
  rw [←HXE.o,←HBE.o];obtain ⟨z0,z1,z2,z3,z4,z5,z6,z7,zf,HR2,HK2⟩:=nn HBE.o HKX.o HK0.o HZ.o;go_wp2;refine rt HR2.o ?_;exact RulePost.of_none HR.o rfl HK2.o
theorem rapply5_any (m:MRe) (w:World) (k1:m.OK w) (f1:m.tree.WF) (hb:m.tree.bulk≤100000):
  Calls Tryz.prog 12 #[H J 5,m.val] w (RulePost w m.blocks (nbR 3 tailP tailRes m.tree)):=by
 obtain ⟨R,hR0⟩:∃ R,R=nbR 3 tailP tailRes m.tree:=⟨_,rfl⟩;rw [←hR0];have hC:=fun (W:World) (h:Keeps [] w W) (ho:m.tree.op=3)=> pairs_any 5 tailP tailRes m W (k1.keep h) f1 (by rw [ho];decide) hb (fun a b V ha hb fa fb ba bb=> rpair5_any a b V ha hb fa fb ba bb);have hoR:m.tree.op=3→nbR 3 tailP tailRes m.tree=R:=fun _=> hR0.symm;have hoN:m.tree.op≠3→R=none:=fun h=> by rw [hR0];unfold nbR;rw [if_neg h]
 have hC:=fun (W:World) (h:Keeps [] w W) (ho:m.tree.op=3)=> (show Calls Tryz.prog 50 #[H J 5,m.val] W (RulePost W m.blocks R) from by rw [hR0];unfold nbR;rw [if_pos ho];exact hC W h ho);have HLT:=gi k1.block_lt;have hop:m.tree.op=(match m with | .node op _ _ _ _ _ _ _ _ _ _ _=> op):=by cases m;rfl
 obtain ⟨op,sa,sc,set,ka,kc,kids,mn,mx,mode,n,neg⟩:=m;replace hop:(MRe.tree (.node op sa sc set ka kc kids mn mx mode n neg)).op=op:=rfl;rw [hop] at hoN;obtain ⟨B,hBe⟩:∃ B,B=w.heap.size:=⟨_,rfl⟩;obtain ⟨X,hXe,hb8,hz,hzn,hsz,hkX⟩:=applyZ w (.node op sa sc set ka kc kids mn mx mode n neg) 26;simp only [MRe.row] at hXe;rw [←hBe] at hb8 hz hzn hsz;have HBE:=gi hBe;have HXE:=gi hXe;have HC:=gi hb8;have HZ:=gi hz;have HZN:=gi hzn;have HKX:=gi hkX;have HXS:=gi hsz;simp only [MRe.val] at hC ⊢
 by_cases ho:op=3
 ·have HI:=gi (fun (W:World) (h:Keeps [] w W)=> hC W h ho);obtain ⟨R1,hR1⟩:∃ R1,R1=R:=⟨_,rfl⟩;rw [←hR1];have HR1:=gi hR1;clear hR0 hR1 hC hoN hoR hBe hXe hb8 hz hzn hsz hkX k1 f1 hb hop;subst ho;obtain ⟨c0,c1,c2,c3,c4,c5,c6,c7⟩:=HC.o.cells0;go_enter Tryz.func12,Tryz.ntmps12
  go_upto_region 2 with fail
  rw [←HXE.o,←HBE.o];go_wp2_with fail
  refine Calls.mono (HI.o _ HKX.o) ?_;intro e w2 hor
  cases R with
  | none=>
   obtain ⟨rfl,hk2⟩:=hor;have K2:=gi hk2;have HR:=gi (show R1=none from HR1.o);clear hk2 c0 c1 c2 c3 c4 c5 c6 c7;obtain ⟨z0,z1,z2,z3,z4,z5,z6,z7,zf,HR2,HK2⟩:=nn HBE.o HKX.o K2.o HZ.o;go_wp2;refine rt HR2.o ?_;exact RulePost.of_none HR.o rfl HK2.o
  | some t=>
   obtain ⟨q,rfl,hqt,hqo,hk8,hqf⟩:=hor;have K8:=gi hk8;have QT:=gi hqt;have QO:=gi hqo;have QF:=gi (swap_from (lo:=B + 2) (add:=[]) (by rw [List.append_nil];exact hqf) (fun _ h=> by simp at h) HXS.o);obtain ⟨q0,hq0⟩:∃ q0,q0=q:=⟨_,rfl⟩;rw [←hq0] at QT QO QF;have Q0:=gi hq0;clear hqt hqo hk8 hqf hq0 c0 c1 c2 c3 c4 c5 c6 c7;obtain ⟨op9,sa9,sc9,set9,ka9,kc9,kids9,mn9,mx9,mode9,n9,neg9⟩:=q;simp only [MRe.val];obtain ⟨z0,z1,z2,z3,z4,z5,z6,z7,zf⟩:=zero_cells (K8.o.h HZ.o);go_wp2;have hfr:=QF.o;rw [Q0.o] at hfr;obtain ⟨hR,hok,hke,hfr2⟩:=rule_store HBE.o HKX.o K8.o HZ.o (by rw [←Q0.o];exact QO.o) hfr HLT.o;refine rt hR ?_;exact RulePost.of_some (.node op9 sa9 sc9 set9 ka9 kc9 kids9 mn9 mx9 mode9 n9 neg9) (by rw [HR1.o,←Q0.o,QT.o]) rfl hok hke hfr2
 ·have HR:=gi (hoN ho);have hob:(op==3)=false:=by simpa using ho
  have HK0:=gi (Keeps.refl [] X);clear hR0 hC hoN hoR hBe hXe hb8 hz hzn hsz hkX k1 f1 hb hop;obtain ⟨c0,c1,c2,c3,c4,c5,c6,c7⟩:=HC.o.cells0;obtain ⟨y0,y1,y2,y3,y4,y5,y6,y7,yf⟩:=zero_cells HZN.o;go_enter Tryz.func12,Tryz.ntmps12
  go_upto_region 2 with fail
  rw [←HXE.o,←HBE.o];obtain ⟨z0,z1,z2,z3,z4,z5,z6,z7,zf,HR2,HK2⟩:=nn HBE.o HKX.o HK0.o HZ.o;go_wp2;refine rt HR2.o ?_;exact RulePost.of_none HR.o rfl HK2.o
theorem rapply6_any (m:MRe) (w:World) (k1:m.OK w) (f1:m.tree.WF) (hb:m.tree.bulk≤100000):
  Calls Tryz.prog 12 #[H J 6,m.val] w (RulePost w m.blocks (nbR 3 uT (fun a b=> .node 1 (unionP a.set b.set) [] 0 0 0 0 false) m.tree)):=by
 obtain ⟨R,hR0⟩:∃ R,R=nbR 3 uT (fun a b=> .node 1 (unionP a.set b.set) [] 0 0 0 0 false) m.tree:=⟨_,rfl⟩;rw [←hR0];have hC:=fun (W:World) (h:Keeps [] w W) (ho:m.tree.op=3)=> pairs_any 6 uT (fun a b=> .node 1 (unionP a.set b.set) [] 0 0 0 0 false) m W (k1.keep h) f1 (by rw [ho];decide) hb (fun a b V ha hb fa fb ba bb=> rpair6_any a b V ha hb fa fb);have hoR:m.tree.op=3→nbR 3 uT (fun a b=> .node 1 (unionP a.set b.set) [] 0 0 0 0 false) m.tree=R:=fun _=> hR0.symm;have hoN:m.tree.op≠3→R=none:=fun h=> by rw [hR0];unfold nbR;rw [if_neg h]
 have hC:=fun (W:World) (h:Keeps [] w W) (ho:m.tree.op=3)=> (show Calls Tryz.prog 50 #[H J 6,m.val] W (RulePost W m.blocks R) from by rw [hR0];unfold nbR;rw [if_pos ho];exact hC W h ho);have HLT:=gi k1.block_lt;have hop:m.tree.op=(match m with | .node op _ _ _ _ _ _ _ _ _ _ _=> op):=by cases m;rfl
 obtain ⟨op,sa,sc,set,ka,kc,kids,mn,mx,mode,n,neg⟩:=m;replace hop:(MRe.tree (.node op sa sc set ka kc kids mn mx mode n neg)).op=op:=rfl;rw [hop] at hoN;obtain ⟨B,hBe⟩:∃ B,B=w.heap.size:=⟨_,rfl⟩;obtain ⟨X,hXe,hb8,hz,hzn,hsz,hkX⟩:=applyZ w (.node op sa sc set ka kc kids mn mx mode n neg) 26;simp only [MRe.row] at hXe;rw [←hBe] at hb8 hz hzn hsz;have HBE:=gi hBe;have HXE:=gi hXe;have HC:=gi hb8;have HZ:=gi hz;have HZN:=gi hzn;have HKX:=gi hkX;have HXS:=gi hsz;simp only [MRe.val] at hC ⊢
 by_cases ho:op=3
 ·have HI:=gi (fun (W:World) (h:Keeps [] w W)=> hC W h ho);obtain ⟨R1,hR1⟩:∃ R1,R1=R:=⟨_,rfl⟩;rw [←hR1];have HR1:=gi hR1;clear hR0 hR1 hC hoN hoR hBe hXe hb8 hz hzn hsz hkX k1 f1 hb hop;subst ho;obtain ⟨c0,c1,c2,c3,c4,c5,c6,c7⟩:=HC.o.cells0;go_enter Tryz.func12,Tryz.ntmps12
  go_upto_region 2 with fail
  rw [←HXE.o,←HBE.o];go_wp2_with fail
  refine Calls.mono (HI.o _ HKX.o) ?_;intro e w2 hor
  cases R with
  | none=>
   obtain ⟨rfl,hk2⟩:=hor;have K2:=gi hk2;have HR:=gi (show R1=none from HR1.o);clear hk2 c0 c1 c2 c3 c4 c5 c6 c7;obtain ⟨z0,z1,z2,z3,z4,z5,z6,z7,zf,HR2,HK2⟩:=nn HBE.o HKX.o K2.o HZ.o;go_wp2;refine rt HR2.o ?_;exact RulePost.of_none HR.o rfl HK2.o
  | some t=>
   obtain ⟨q,rfl,hqt,hqo,hk8,hqf⟩:=hor;have K8:=gi hk8;have QT:=gi hqt;have QO:=gi hqo;have QF:=gi (swap_from (lo:=B + 2) (add:=[]) (by rw [List.append_nil];exact hqf) (fun _ h=> by simp at h) HXS.o);obtain ⟨q0,hq0⟩:∃ q0,q0=q:=⟨_,rfl⟩;rw [←hq0] at QT QO QF;have Q0:=gi hq0;clear hqt hqo hk8 hqf hq0 c0 c1 c2 c3 c4 c5 c6 c7;obtain ⟨op9,sa9,sc9,set9,ka9,kc9,kids9,mn9,mx9,mode9,n9,neg9⟩:=q;simp only [MRe.val];obtain ⟨z0,z1,z2,z3,z4,z5,z6,z7,zf⟩:=zero_cells (K8.o.h HZ.o);go_wp2;have hfr:=QF.o;rw [Q0.o] at hfr;obtain ⟨hR,hok,hke,hfr2⟩:=rule_store HBE.o HKX.o K8.o HZ.o (by rw [←Q0.o];exact QO.o) hfr HLT.o;refine rt hR ?_;exact RulePost.of_some (.node op9 sa9 sc9 set9 ka9 kc9 kids9 mn9 mx9 mode9 n9 neg9) (by rw [HR1.o,←Q0.o,QT.o]) rfl hok hke hfr2
 ·have HR:=gi (hoN ho);have hob:(op==3)=false:=by simpa using ho
  have HK0:=gi (Keeps.refl [] X);clear hR0 hC hoN hoR hBe hXe hb8 hz hzn hsz hkX k1 f1 hb hop;obtain ⟨c0,c1,c2,c3,c4,c5,c6,c7⟩:=HC.o.cells0;obtain ⟨y0,y1,y2,y3,y4,y5,y6,y7,yf⟩:=zero_cells HZN.o;go_enter Tryz.func12,Tryz.ntmps12
  go_upto_region 2 with fail
  rw [←HXE.o,←HBE.o];obtain ⟨z0,z1,z2,z3,z4,z5,z6,z7,zf,HR2,HK2⟩:=nn HBE.o HKX.o HK0.o HZ.o;go_wp2;refine rt HR2.o ?_;exact RulePost.of_none HR.o rfl HK2.o
theorem rapply9_any (m:MRe) (w:World) (k1:m.OK w) (f1:m.tree.WF) (hb:m.tree.bulk≤100000):
  Calls Tryz.prog 12 #[H J 9,m.val] w (RulePost w m.blocks (nbR 2 starsP (fun _ b=> b) m.tree)):=by
 obtain ⟨R,hR0⟩:∃ R,R=nbR 2 starsP (fun _ b=> b) m.tree:=⟨_,rfl⟩;rw [←hR0];have hC:=fun (W:World) (h:Keeps [] w W) (ho:m.tree.op=2)=> pairs_any 9 starsP (fun _ b=> b) m W (k1.keep h) f1 (by rw [ho];decide) hb (fun a b V ha hb fa fb ba bb=> rpair9_any a b V ha hb fa ba bb);have hoR:m.tree.op=2→nbR 2 starsP (fun _ b=> b) m.tree=R:=fun _=> hR0.symm;have hoN:m.tree.op≠2→R=none:=fun h=> by rw [hR0];unfold nbR;rw [if_neg h]
 have hC:=fun (W:World) (h:Keeps [] w W) (ho:m.tree.op=2)=> (show Calls Tryz.prog 50 #[H J 9,m.val] W (RulePost W m.blocks R) from by rw [hR0];unfold nbR;rw [if_pos ho];exact hC W h ho);have HLT:=gi k1.block_lt;have hop:m.tree.op=(match m with | .node op _ _ _ _ _ _ _ _ _ _ _=> op):=by cases m;rfl
 obtain ⟨op,sa,sc,set,ka,kc,kids,mn,mx,mode,n,neg⟩:=m;replace hop:(MRe.tree (.node op sa sc set ka kc kids mn mx mode n neg)).op=op:=rfl;rw [hop] at hoN;obtain ⟨B,hBe⟩:∃ B,B=w.heap.size:=⟨_,rfl⟩;obtain ⟨X,hXe,hb8,hz,hzn,hsz,hkX⟩:=applyZ w (.node op sa sc set ka kc kids mn mx mode n neg) 26;simp only [MRe.row] at hXe;rw [←hBe] at hb8 hz hzn hsz;have HBE:=gi hBe;have HXE:=gi hXe;have HC:=gi hb8;have HZ:=gi hz;have HZN:=gi hzn;have HKX:=gi hkX;have HXS:=gi hsz;simp only [MRe.val] at hC ⊢
 by_cases ho:op=2
 ·have HI:=gi (fun (W:World) (h:Keeps [] w W)=> hC W h ho);obtain ⟨R1,hR1⟩:∃ R1,R1=R:=⟨_,rfl⟩;rw [←hR1];have HR1:=gi hR1;clear hR0 hR1 hC hoN hoR hBe hXe hb8 hz hzn hsz hkX k1 f1 hb hop;subst ho;obtain ⟨c0,c1,c2,c3,c4,c5,c6,c7⟩:=HC.o.cells0;go_enter Tryz.func12,Tryz.ntmps12
  go_upto_region 2 with fail
  rw [←HXE.o,←HBE.o];go_wp2_with fail
  refine Calls.mono (HI.o _ HKX.o) ?_;intro e w2 hor
  cases R with
  | none=>
   obtain ⟨rfl,hk2⟩:=hor;have K2:=gi hk2;have HR:=gi (show R1=none from HR1.o);clear hk2 c0 c1 c2 c3 c4 c5 c6 c7;obtain ⟨z0,z1,z2,z3,z4,z5,z6,z7,zf,HR2,HK2⟩:=nn HBE.o HKX.o K2.o HZ.o;go_wp2;refine rt HR2.o ?_;exact RulePost.of_none HR.o rfl HK2.o
  | some t=>
   obtain ⟨q,rfl,hqt,hqo,hk8,hqf⟩:=hor;have K8:=gi hk8;have QT:=gi hqt;have QO:=gi hqo;have QF:=gi (swap_from (lo:=B + 2) (add:=[]) (by rw [List.append_nil];exact hqf) (fun _ h=> by simp at h) HXS.o);obtain ⟨q0,hq0⟩:∃ q0,q0=q:=⟨_,rfl⟩;rw [←hq0] at QT QO QF;have Q0:=gi hq0;clear hqt hqo hk8 hqf hq0 c0 c1 c2 c3 c4 c5 c6 c7;obtain ⟨op9,sa9,sc9,set9,ka9,kc9,kids9,mn9,mx9,mode9,n9,neg9⟩:=q;simp only [MRe.val];obtain ⟨z0,z1,z2,z3,z4,z5,z6,z7,zf⟩:=zero_cells (K8.o.h HZ.o);go_wp2;have hfr:=QF.o;rw [Q0.o] at hfr;obtain ⟨hR,hok,hke,hfr2⟩:=rule_store HBE.o HKX.o K8.o HZ.o (by rw [←Q0.o];exact QO.o) hfr HLT.o;refine rt hR ?_;exact RulePost.of_some (.node op9 sa9 sc9 set9 ka9 kc9 kids9 mn9 mx9 mode9 n9 neg9) (by rw [HR1.o,←Q0.o,QT.o]) rfl hok hke hfr2
 ·have HR:=gi (hoN ho);have hob:(op==2)=false:=by simpa using ho
  have HK0:=gi (Keeps.refl [] X);clear hR0 hC hoN hoR hBe hXe hb8 hz hzn hsz hkX k1 f1 hb hop;obtain ⟨c0,c1,c2,c3,c4,c5,c6,c7⟩:=HC.o.cells0;obtain ⟨y0,y1,y2,y3,y4,y5,y6,y7,yf⟩:=zero_cells HZN.o;go_enter Tryz.func12,Tryz.ntmps12
  go_upto_region 2 with fail
  rw [←HXE.o,←HBE.o];obtain ⟨z0,z1,z2,z3,z4,z5,z6,z7,zf,HR2,HK2⟩:=nn HBE.o HKX.o HK0.o HZ.o;go_wp2;refine rt HR2.o ?_;exact RulePost.of_none HR.o rfl HK2.o
theorem rapply10_any (m:MRe) (w:World) (k1:m.OK w) (f1:m.tree.WF) (hb:m.tree.bulk≤100000):
  Calls Tryz.prog 12 #[H J 10,m.val] w (RulePost w m.blocks (nbR 2 maybeP (fun _ b=> b) m.tree)):=by
 obtain ⟨R,hR0⟩:∃ R,R=nbR 2 maybeP (fun _ b=> b) m.tree:=⟨_,rfl⟩;rw [←hR0];have hC:=fun (W:World) (h:Keeps [] w W) (ho:m.tree.op=2)=> pairs_any 10 maybeP (fun _ b=> b) m W (k1.keep h) f1 (by rw [ho];decide) hb (fun a b V ha hb fa fb ba bb=> rpair10_any a b V ha hb fa fb ba bb);have hoR:m.tree.op=2→nbR 2 maybeP (fun _ b=> b) m.tree=R:=fun _=> hR0.symm;have hoN:m.tree.op≠2→R=none:=fun h=> by rw [hR0];unfold nbR;rw [if_neg h]
 have hC:=fun (W:World) (h:Keeps [] w W) (ho:m.tree.op=2)=> (show Calls Tryz.prog 50 #[H J 10,m.val] W (RulePost W m.blocks R) from by rw [hR0];unfold nbR;rw [if_pos ho];exact hC W h ho);have HLT:=gi k1.block_lt;have hop:m.tree.op=(match m with | .node op _ _ _ _ _ _ _ _ _ _ _=> op):=by cases m;rfl
 obtain ⟨op,sa,sc,set,ka,kc,kids,mn,mx,mode,n,neg⟩:=m;replace hop:(MRe.tree (.node op sa sc set ka kc kids mn mx mode n neg)).op=op:=rfl;rw [hop] at hoN;obtain ⟨B,hBe⟩:∃ B,B=w.heap.size:=⟨_,rfl⟩;obtain ⟨X,hXe,hb8,hz,hzn,hsz,hkX⟩:=applyZ w (.node op sa sc set ka kc kids mn mx mode n neg) 26;simp only [MRe.row] at hXe;rw [←hBe] at hb8 hz hzn hsz;have HBE:=gi hBe;have HXE:=gi hXe;have HC:=gi hb8;have HZ:=gi hz;have HZN:=gi hzn;have HKX:=gi hkX;have HXS:=gi hsz;simp only [MRe.val] at hC ⊢
 by_cases ho:op=2
 ·have HI:=gi (fun (W:World) (h:Keeps [] w W)=> hC W h ho);obtain ⟨R1,hR1⟩:∃ R1,R1=R:=⟨_,rfl⟩;rw [←hR1];have HR1:=gi hR1;clear hR0 hR1 hC hoN hoR hBe hXe hb8 hz hzn hsz hkX k1 f1 hb hop;subst ho;obtain ⟨c0,c1,c2,c3,c4,c5,c6,c7⟩:=HC.o.cells0;go_enter Tryz.func12,Tryz.ntmps12
  go_upto_region 2 with fail
  rw [←HXE.o,←HBE.o];go_wp2_with fail
  refine Calls.mono (HI.o _ HKX.o) ?_;intro e w2 hor
  cases R with
  | none=>
   obtain ⟨rfl,hk2⟩:=hor;have K2:=gi hk2;have HR:=gi (show R1=none from HR1.o);clear hk2 c0 c1 c2 c3 c4 c5 c6 c7;obtain ⟨z0,z1,z2,z3,z4,z5,z6,z7,zf,HR2,HK2⟩:=nn HBE.o HKX.o K2.o HZ.o;go_wp2;refine rt HR2.o ?_;exact RulePost.of_none HR.o rfl HK2.o
  | some t=>
   obtain ⟨q,rfl,hqt,hqo,hk8,hqf⟩:=hor;have K8:=gi hk8;have QT:=gi hqt;have QO:=gi hqo;have QF:=gi (swap_from (lo:=B + 2) (add:=[]) (by rw [List.append_nil];exact hqf) (fun _ h=> by simp at h) HXS.o);obtain ⟨q0,hq0⟩:∃ q0,q0=q:=⟨_,rfl⟩;rw [←hq0] at QT QO QF;have Q0:=gi hq0;clear hqt hqo hk8 hqf hq0 c0 c1 c2 c3 c4 c5 c6 c7;obtain ⟨op9,sa9,sc9,set9,ka9,kc9,kids9,mn9,mx9,mode9,n9,neg9⟩:=q;simp only [MRe.val];obtain ⟨z0,z1,z2,z3,z4,z5,z6,z7,zf⟩:=zero_cells (K8.o.h HZ.o);go_wp2;have hfr:=QF.o;rw [Q0.o] at hfr;obtain ⟨hR,hok,hke,hfr2⟩:=rule_store HBE.o HKX.o K8.o HZ.o (by rw [←Q0.o];exact QO.o) hfr HLT.o;refine rt hR ?_;exact RulePost.of_some (.node op9 sa9 sc9 set9 ka9 kc9 kids9 mn9 mx9 mode9 n9 neg9) (by rw [HR1.o,←Q0.o,QT.o]) rfl hok hke hfr2
 ·have HR:=gi (hoN ho);have hob:(op==2)=false:=by simpa using ho
  have HK0:=gi (Keeps.refl [] X);clear hR0 hC hoN hoR hBe hXe hb8 hz hzn hsz hkX k1 f1 hb hop;obtain ⟨c0,c1,c2,c3,c4,c5,c6,c7⟩:=HC.o.cells0;obtain ⟨y0,y1,y2,y3,y4,y5,y6,y7,yf⟩:=zero_cells HZN.o;go_enter Tryz.func12,Tryz.ntmps12
  go_upto_region 2 with fail
  rw [←HXE.o,←HBE.o];obtain ⟨z0,z1,z2,z3,z4,z5,z6,z7,zf,HR2,HK2⟩:=nn HBE.o HKX.o HK0.o HZ.o;go_wp2;refine rt HR2.o ?_;exact RulePost.of_none HR.o rfl HK2.o
theorem rapply11_any (m:MRe) (w:World) (k1:m.OK w) (f1:m.tree.WF) (hb:m.tree.bulk≤100000):
  Calls Tryz.prog 12 #[H J 11,m.val] w (RulePost w m.blocks (nbR 2 plusP (fun a _=> .node 4 [] [a] 1 (-1) 0 0 false) m.tree)):=by
 obtain ⟨R,hR0⟩:∃ R,R=nbR 2 plusP (fun a _=> .node 4 [] [a] 1 (-1) 0 0 false) m.tree:=⟨_,rfl⟩;rw [←hR0];have hC:=fun (W:World) (h:Keeps [] w W) (ho:m.tree.op=2)=> pairs_any 11 plusP (fun a _=> .node 4 [] [a] 1 (-1) 0 0 false) m W (k1.keep h) f1 (by rw [ho];decide) hb (fun a b V ha hb fa fb ba bb=> rpair11_any a b V ha hb fb ba bb);have hoR:m.tree.op=2→nbR 2 plusP (fun a _=> .node 4 [] [a] 1 (-1) 0 0 false) m.tree=R:=fun _=> hR0.symm;have hoN:m.tree.op≠2→R=none:=fun h=> by rw [hR0];unfold nbR;rw [if_neg h]
 have hC:=fun (W:World) (h:Keeps [] w W) (ho:m.tree.op=2)=> (show Calls Tryz.prog 50 #[H J 11,m.val] W (RulePost W m.blocks R) from by rw [hR0];unfold nbR;rw [if_pos ho];exact hC W h ho);have HLT:=gi k1.block_lt;have hop:m.tree.op=(match m with | .node op _ _ _ _ _ _ _ _ _ _ _=> op):=by cases m;rfl
 obtain ⟨op,sa,sc,set,ka,kc,kids,mn,mx,mode,n,neg⟩:=m;replace hop:(MRe.tree (.node op sa sc set ka kc kids mn mx mode n neg)).op=op:=rfl;rw [hop] at hoN;obtain ⟨B,hBe⟩:∃ B,B=w.heap.size:=⟨_,rfl⟩;obtain ⟨X,hXe,hb8,hz,hzn,hsz,hkX⟩:=applyZ w (.node op sa sc set ka kc kids mn mx mode n neg) 26;simp only [MRe.row] at hXe;rw [←hBe] at hb8 hz hzn hsz;have HBE:=gi hBe;have HXE:=gi hXe;have HC:=gi hb8;have HZ:=gi hz;have HZN:=gi hzn;have HKX:=gi hkX;have HXS:=gi hsz;simp only [MRe.val] at hC ⊢
 by_cases ho:op=2
 ·have HI:=gi (fun (W:World) (h:Keeps [] w W)=> hC W h ho);obtain ⟨R1,hR1⟩:∃ R1,R1=R:=⟨_,rfl⟩;rw [←hR1];have HR1:=gi hR1;clear hR0 hR1 hC hoN hoR hBe hXe hb8 hz hzn hsz hkX k1 f1 hb hop;subst ho;obtain ⟨c0,c1,c2,c3,c4,c5,c6,c7⟩:=HC.o.cells0;go_enter Tryz.func12,Tryz.ntmps12
  go_upto_region 2 with fail
  rw [←HXE.o,←HBE.o];go_wp2_with fail
  refine Calls.mono (HI.o _ HKX.o) ?_;intro e w2 hor
  cases R with
  | none=>
   obtain ⟨rfl,hk2⟩:=hor;have K2:=gi hk2;have HR:=gi (show R1=none from HR1.o);clear hk2 c0 c1 c2 c3 c4 c5 c6 c7;obtain ⟨z0,z1,z2,z3,z4,z5,z6,z7,zf,HR2,HK2⟩:=nn HBE.o HKX.o K2.o HZ.o;go_wp2;refine rt HR2.o ?_;exact RulePost.of_none HR.o rfl HK2.o
  | some t=>
   obtain ⟨q,rfl,hqt,hqo,hk8,hqf⟩:=hor;have K8:=gi hk8;have QT:=gi hqt;have QO:=gi hqo;have QF:=gi (swap_from (lo:=B + 2) (add:=[]) (by rw [List.append_nil];exact hqf) (fun _ h=> by simp at h) HXS.o);obtain ⟨q0,hq0⟩:∃ q0,q0=q:=⟨_,rfl⟩;rw [←hq0] at QT QO QF;have Q0:=gi hq0;clear hqt hqo hk8 hqf hq0 c0 c1 c2 c3 c4 c5 c6 c7;obtain ⟨op9,sa9,sc9,set9,ka9,kc9,kids9,mn9,mx9,mode9,n9,neg9⟩:=q;simp only [MRe.val];obtain ⟨z0,z1,z2,z3,z4,z5,z6,z7,zf⟩:=zero_cells (K8.o.h HZ.o);go_wp2;have hfr:=QF.o;rw [Q0.o] at hfr;obtain ⟨hR,hok,hke,hfr2⟩:=rule_store HBE.o HKX.o K8.o HZ.o (by rw [←Q0.o];exact QO.o) hfr HLT.o;refine rt hR ?_;exact RulePost.of_some (.node op9 sa9 sc9 set9 ka9 kc9 kids9 mn9 mx9 mode9 n9 neg9) (by rw [HR1.o,←Q0.o,QT.o]) rfl hok hke hfr2
 ·have HR:=gi (hoN ho);have hob:(op==2)=false:=by simpa using ho
  have HK0:=gi (Keeps.refl [] X);clear hR0 hC hoN hoR hBe hXe hb8 hz hzn hsz hkX k1 f1 hb hop;obtain ⟨c0,c1,c2,c3,c4,c5,c6,c7⟩:=HC.o.cells0;obtain ⟨y0,y1,y2,y3,y4,y5,y6,y7,yf⟩:=zero_cells HZN.o;go_enter Tryz.func12,Tryz.ntmps12
  go_upto_region 2 with fail
  rw [←HXE.o,←HBE.o];obtain ⟨z0,z1,z2,z3,z4,z5,z6,z7,zf,HR2,HK2⟩:=nn HBE.o HKX.o HK0.o HZ.o;go_wp2;refine rt HR2.o ?_;exact RulePost.of_none HR.o rfl HK2.o
theorem rapply12_any (m:MRe) (w:World) (k1:m.OK w) (f1:m.tree.WF) (hb:m.tree.bulk≤100000):
  Calls Tryz.prog 12 #[H J 12,m.val] w (RulePost w m.blocks (holdR m.tree)):=by
 obtain ⟨R,hR0⟩:∃ R,R=holdR m.tree:=⟨_,rfl⟩;rw [←hR0];have hC:=fun (W:World) (h:Keeps [] w W) (ho:m.tree.op=2)=> rhold_any m W (k1.keep h) f1 ho hb;have hoR:m.tree.op=2→holdR m.tree=R:=fun _=> hR0.symm;have hoN:m.tree.op≠2→R=none:=fun h=> by rw [hR0];cases hm:m.tree with | node op set kids mn mx mode n neg=> (rw [hm] at h;rw [holdR,if_neg (show ¬ op=2 from h)])
 simp only [←hR0] at hC;have HLT:=gi k1.block_lt;have hop:m.tree.op=(match m with | .node op _ _ _ _ _ _ _ _ _ _ _=> op):=by cases m;rfl
 obtain ⟨op,sa,sc,set,ka,kc,kids,mn,mx,mode,n,neg⟩:=m;replace hop:(MRe.tree (.node op sa sc set ka kc kids mn mx mode n neg)).op=op:=rfl;rw [hop] at hoN;obtain ⟨B,hBe⟩:∃ B,B=w.heap.size:=⟨_,rfl⟩;obtain ⟨X,hXe,hb8,hz,hzn,hsz,hkX⟩:=applyZ w (.node op sa sc set ka kc kids mn mx mode n neg) 26;simp only [MRe.row] at hXe;rw [←hBe] at hb8 hz hzn hsz;have HBE:=gi hBe;have HXE:=gi hXe;have HC:=gi hb8;have HZ:=gi hz;have HZN:=gi hzn;have HKX:=gi hkX;have HXS:=gi hsz;simp only [MRe.val] at hC ⊢
 by_cases ho:op=2
 ·have HI:=gi (fun (W:World) (h:Keeps [] w W)=> hC W h ho);obtain ⟨R1,hR1⟩:∃ R1,R1=R:=⟨_,rfl⟩;rw [←hR1];have HR1:=gi hR1;clear hR0 hR1 hC hoN hoR hBe hXe hb8 hz hzn hsz hkX k1 f1 hb hop;subst ho;obtain ⟨c0,c1,c2,c3,c4,c5,c6,c7⟩:=HC.o.cells0;go_enter Tryz.func12,Tryz.ntmps12
  go_upto_region 2 with fail
  rw [←HXE.o,←HBE.o];go_wp2_with fail
  refine Calls.mono (HI.o _ HKX.o) ?_;intro e w2 hor
  cases R with
  | none=>
   obtain ⟨rfl,hk2⟩:=hor;have K2:=gi hk2;have HR:=gi (show R1=none from HR1.o);clear hk2 c0 c1 c2 c3 c4 c5 c6 c7;obtain ⟨z0,z1,z2,z3,z4,z5,z6,z7,zf,HR2,HK2⟩:=nn HBE.o HKX.o K2.o HZ.o;go_wp2;refine rt HR2.o ?_;exact RulePost.of_none HR.o rfl HK2.o
  | some t=>
   obtain ⟨q,rfl,hqt,hqo,hk8,hqf⟩:=hor;have K8:=gi hk8;have QT:=gi hqt;have QO:=gi hqo;have QF:=gi (swap_from (lo:=B + 2) (add:=[]) (by rw [List.append_nil];exact hqf) (fun _ h=> by simp at h) HXS.o);obtain ⟨q0,hq0⟩:∃ q0,q0=q:=⟨_,rfl⟩;rw [←hq0] at QT QO QF;have Q0:=gi hq0;clear hqt hqo hk8 hqf hq0 c0 c1 c2 c3 c4 c5 c6 c7;obtain ⟨op9,sa9,sc9,set9,ka9,kc9,kids9,mn9,mx9,mode9,n9,neg9⟩:=q;simp only [MRe.val];obtain ⟨z0,z1,z2,z3,z4,z5,z6,z7,zf⟩:=zero_cells (K8.o.h HZ.o);go_wp2;have hfr:=QF.o;rw [Q0.o] at hfr;obtain ⟨hR,hok,hke,hfr2⟩:=rule_store HBE.o HKX.o K8.o HZ.o (by rw [←Q0.o];exact QO.o) hfr HLT.o;refine rt hR ?_;exact RulePost.of_some (.node op9 sa9 sc9 set9 ka9 kc9 kids9 mn9 mx9 mode9 n9 neg9) (by rw [HR1.o,←Q0.o,QT.o]) rfl hok hke hfr2
 ·have HR:=gi (hoN ho);have hob:(op==2)=false:=by simpa using ho
  have HK0:=gi (Keeps.refl [] X);clear hR0 hC hoN hoR hBe hXe hb8 hz hzn hsz hkX k1 f1 hb hop;obtain ⟨c0,c1,c2,c3,c4,c5,c6,c7⟩:=HC.o.cells0;obtain ⟨y0,y1,y2,y3,y4,y5,y6,y7,yf⟩:=zero_cells HZN.o;go_enter Tryz.func12,Tryz.ntmps12
  go_upto_region 2 with fail
  rw [←HXE.o,←HBE.o];obtain ⟨z0,z1,z2,z3,z4,z5,z6,z7,zf,HR2,HK2⟩:=nn HBE.o HKX.o HK0.o HZ.o;go_wp2;refine rt HR2.o ?_;exact RulePost.of_none HR.o rfl HK2.o
end Go.Proofs.YtjnlkjlbejelgaaGreat
