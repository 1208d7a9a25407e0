/- Part of the proof. No condition: every lemma says its own. -/
import Derived.Test.YtjnlkjlbejelgaaGreatRSPak
namespace Go.Proofs.YtjnlkjlbejelgaaGreat
open Go.RowKit
open Go.Value renaming int→H,slice→M,bool→F
open Go.IntKind renaming i64→J
set_option maxRecDepth 100000
set_option maxHeartbeats 16000000
theorem al9 (m:MRe) (w:World) (aj:m.aK w) (aJ:m.ab.dE):
  Calls Tryz.prog 93 #[m.val] w (dc w m.aw (CN m.ab)):=by
 obtain ⟨R,aC⟩:∃ R,R=CN m.ab:=⟨_,rfl⟩;rw [←aC];obtain ⟨op,sa,sc,set,ka,kc,kids,mn,mx,mode,n,neg⟩:=m;have eC:=kB aJ;obtain ⟨U,aE,aB,c7,bI,ba,cZ,aH⟩:=rS w op sa sc set ka kc kids mn mx mode n neg;have hC:=C cZ;have eU:=C aj.fi;have hj:=C (I.refl [] aE);replace aC:R=if op=9∧((MRe.al kids).getD 0 .nil).op=4∧((MRe.al kids).getD 0 .nil).mode=0 then some (tY ((MRe.al kids).getD 0 .nil)) else none:=aC;simp only [MRe.val];clear cZ
 by_cases a1:op=9
 ·have lE:kids.length=1:=eC.hone (by simp [a1]);have l7:0 < kids.length:=by omega
  have hln:(0:Int) < (kids.length:Int):=by omega
  obtain ⟨b1,cR,dq,rfl,iM,hD,jf,hP⟩:=aj.kids.head l7;obtain ⟨r,aO⟩:=oJ hD;have hg:(MRe.al kids).getD 0 .nil=dq.ab:=by rw [aO];rfl
  rw [hg] at aC;have iP:=C (show du (U + 2) (MRe.node op sa sc set (some ⟨b1,cR,none⟩) kc kids mn mx mode n neg).aw dq.aw from du.rR (mF iM));subst a1;obtain ⟨op1,aM,aN,set1,aS,kc1,aq,mn1,aI,mode1,n1,aL⟩:=dq;have w6:(MRe.ab (.node op1 aM aN set1 aS kc1 aq mn1 aI mode1 n1 aL)).op=op1:=rfl;have sZ:(MRe.ab (.node op1 aM aN set1 aS kc1 aq mn1 aI mode1 n1 aL)).mode=mode1:=rfl;rw [w6,sZ] at aC;have jq:=C hP;have g:=jf.node;obtain ⟨bg,aV,a6,bl,bq,bE,bF,bH⟩:=id g;obtain ⟨bK,d1,d2,bL,bO,bT,bU,bV⟩:=aH.o.au bg aV a6 bl bq bE bF bH;clear g bg aV a6 bl bq bE bF bH iM hD jf hP aO lE aj aJ eC hg w6 sZ
  by_cases a4:op1=4
  ·by_cases a0:mode1=0
   ·have aD:=C (show R=some (tY (MRe.ab (.node op1 aM aN set1 aS kc1 aq mn1 aI mode1 n1 aL))) from aC.trans (if_pos ⟨rfl,a4,a0⟩));clear aC;subst a4 a0;obtain ⟨ar,c1,c2,an,av,ay,ax,az⟩:=bI.o.ez;go_enter Tryz.func93,Tryz.ntmps93
    go_upto_region 1 with fail
    rw [←c7.o,←aB.o];go_upto_region 4 with fail
    obtain ⟨dJ,n4⟩:∃ dJ,dJ=aE.heap.size:=⟨_,rfl⟩;obtain ⟨aA,c5⟩:∃ aA,aA=aE.alloc (bf 4 aM set1 aN aS aq kc1 mn1 aI 0 n1 aL):=⟨_,rfl⟩;have eZ:I [] aE aA:=by rw [c5];exact I.a1 _ _
    have sQ:aA.heap[dJ]? =some (bf 4 aM set1 aN aS aq kc1 mn1 aI 0 n1 aL):=by rw [c5,n4];exact heap_alloc_new aE _
    rw [←c5,←n4];have aZ:=C eZ;have xo:=C sQ;have Mw:=C n4;obtain ⟨fQ,p1,p2,jh,ji,lq,lr,lu⟩:=eR sQ;have wj:=h6 sQ;clear n4 c5 eZ sQ ar c1 c2 an av ay ax az bK d1 d2 bL bO bT bU bV;go_upto_region 5 with fail
    obtain ⟨ak,cY⟩:∃ ak,ak=aA.setCell ⟨dJ,5,none⟩ (H J 2):=⟨_,rfl⟩;have dh:I [dJ] aA ak:=by rw [cY];exact (I.refl [dJ] aA).setCell (p:=⟨dJ,5,none⟩) (.inl (by simp)) _
    have zS:ak.heap[dJ]? =some (bf 4 aM set1 aN aS aq kc1 mn1 aI 2 n1 aL):=by rw [cY];exact heap_setCell_same _ dJ 5 _ _ _ xo.o
    rw [←cY];obtain ⟨a0,a1,a2,a3,a4,a5,dM,dO⟩:=eR zS;have dG:=C (show I [] aE ak from aZ.o.cn dh (by intro x hx;simp at hx;subst hx;exact .inr (by rw [Mw.o];exact Nat.le_refl _)));obtain ⟨z0,z1,z2,z3,z4,z5,b9,cc,cj⟩:=ew (dG.o.h ba.o);have ds:MRe.aK ak (.node 4 aM aN set1 aS kc1 aq mn1 aI 2 n1 aL):=.hR (jq.o.nV.ah (aH.o.trans dG.o)) (jq.o.kids.ah (aH.o.trans dG.o));obtain ⟨aY,cm,fy,gB⟩:=nd aB.o aH.o dG.o ba.o ds iP.o eU.o;have eo:=C aY;have ey:=C cm;have fS:=C fy;have fT:=C gB;clear aY cm fy gB ds cY dh zS fQ p1 p2 jh ji lq lr lu wj;go_wp2;refine rt eo.o ?_;exact dc.iI (.node 4 aM aN set1 aS kc1 aq mn1 aI 2 n1 aL) aD.o rfl ey.o fS.o fT.o
   ·have aD:=C (show R=none from aC.trans (if_neg (fun h=> a0 h.2.2)));clear aC;have ad:(mode1 !=0)=true:=by simpa using a0
    subst a4;obtain ⟨ar,c1,c2,an,av,ay,ax,az⟩:=bI.o.ez;go_enter Tryz.func93,Tryz.ntmps93
    go_upto_region 1 with fail
    rw [←c7.o,←aB.o];obtain ⟨z0,z1,z2,z3,z4,z5,b9,cc,cj,cw,bQ⟩:=gR aB.o aH.o hj.o ba.o;go_wp2;refine rt cw.o ?_;exact dc.dL aD.o rfl bQ.o
  ·have aD:=C (show R=none from aC.trans (if_neg (fun h=> a4 h.2.1)));clear aC;have ad:(op1 !=4)=true:=by simpa using a4
   obtain ⟨ar,c1,c2,an,av,ay,ax,az⟩:=bI.o.ez;go_enter Tryz.func93,Tryz.ntmps93
   go_upto_region 1 with fail
   rw [←c7.o,←aB.o];obtain ⟨z0,z1,z2,z3,z4,z5,b9,cc,cj,cw,bQ⟩:=gR aB.o aH.o hj.o ba.o;go_wp2;refine rt cw.o ?_;exact dc.dL aD.o rfl bQ.o
 ·have aD:=C (show R=none from aC.trans (if_neg (fun h=> a1 h.1)));clear aC;have ad:(op !=9)=true:=by simpa using a1
  clear aj aJ eC;obtain ⟨ar,c1,c2,an,av,ay,ax,az⟩:=bI.o.ez;go_enter Tryz.func93,Tryz.ntmps93
  go_upto_region 1 with fail
  rw [←c7.o,←aB.o];obtain ⟨z0,z1,z2,z3,z4,z5,b9,cc,cj,cw,bQ⟩:=gR aB.o aH.o hj.o ba.o;go_wp2;refine rt cw.o ?_;exact dc.dL aD.o rfl bQ.o
theorem vp {S lo:Nat} {src add l:List Nat} (h:du S (src ++ add) l) (b8:∀ x∈add,x∈src∨lo≤x) (hs:lo≤S):du lo src l:=fun x hx=> by
 rcases h x hx with h | h
 ·rcases List.mem_append.1 h with h | h
  ·exact .inl h
  ·exact b8 x h
 ·exact .inr (Nat.le_trans hs h)
theorem Pq (m:MRe) (i:Nat) (w:World) (aj:m.aK w) (hi:i < m.kids.length) (ad:m.kids.length≤100000):
  Calls Tryz.prog 114 #[m.val,H J (i:Int),H J ((i:Int) + 1),M none 0 0] w fun e w'=> ∃ r:MRe,e=.returned (.tuple #[r.val,F true])∧r.ab=hF m.ab.op m.ab.kids i (i + 1) []∧r.aK w'∧I [] w w'∧du w.heap.size (m.aw ++ []) r.aw:=by
 have h:=GH m i (i + 1) none 0 [] w aj (gT.nil w) (by omega) (by omega) (by omega) (by simp;omega);rw [show ((i + 1:Nat):Int)=(i:Int) + 1 by omega] at h;exact h
def yU:Option Nat→Int
 | none=> -1
 | some i=> i
theorem LI (p:Tree→Bool) (l:List Tree):xc p l=yU (l.findIdx? p):=rfl
theorem RV {p:Tree→Bool} {l:List Tree} {i:Nat} (h:l.findIdx? p=some i):i < l.length:=(List.findIdx?_eq_some_iff_getElem.1 h).1
theorem aoL (m:MRe) (w:World):Calls Tryz.prog 113 #[m.val] w fun e w'=> e=.returned (F (m.ab.op==0))∧I [] w w':=by
 obtain ⟨op1,aM,aN,set1,aS,kc1,aq,mn1,aI,mode1,n1,aL⟩:=m;have ds:(MRe.ab (.node op1 aM aN set1 aS kc1 aq mn1 aI mode1 n1 aL)).op=op1:=rfl;rw [ds];simp only [MRe.val];clear ds
 by_cases h:op1=0
 ·subst h;go_enter Tryz.func113,Tryz.ntmps113
  go_wp2;go_ret;exact ⟨rfl,I.a1 _ _⟩
 ·have ad:(op1==0)=false:=by simpa using h
  rw [ad];go_enter Tryz.func113,Tryz.ntmps113
  go_wp2;go_ret;exact ⟨rfl,I.a1 _ _⟩
theorem aiW:n2 113:=mf Tryz.func113 (by kernel_rfl) rfl
def CY (t:Tree):Option Tree:=if t.op=2 then (t.kids.findIdx? fun k=> k.op==0).map fun i=> hF 2 t.kids i (i + 1) [] else none
theorem aoM (m:MRe) (w:World) (aj:m.aK w) (ad:m.ab.bm≤100000):
  Calls Tryz.prog 79 #[m.val] w (dc w m.aw (CY m.ab)):=by
 obtain ⟨R,aC⟩:∃ R,R=CY m.ab:=⟨_,rfl⟩;rw [←aC];have eX:=C (fun (W:World) (h:I [] w W) (i:Nat)=> Pq m i W (aj.ah h));have eU:=C aj.fi;obtain ⟨op,sa,sc,set,ka,kc,kids,mn,mx,mode,n,neg⟩:=m;have fY:=C (lG ad).1;obtain ⟨U,aE,aB,c7,bI,ba,cZ,aH⟩:=rS w op sa sc set ka kc kids mn mx mode n neg;have hC:=C cZ;have hj:=C (I.refl [] aE);replace aC:R=if op=2 then ((MRe.al kids).findIdx? fun k=> k.op==0).map fun i=> hF 2 (MRe.al kids) i (i + 1) [] else none:=aC;simp only [MRe.val];have xp:=C (fun (W:World) (h:I [] w W)=> T8 113 #[] (fun k=> k.op==0) ka kc kids W aiW (aj.kids.ah h) (fun k _ ak _=> aoL k ak));clear cZ ad aj
 by_cases a1:op=2
 ·subst a1;rw [if_pos rfl] at aC;obtain ⟨o,ds⟩:∃ o,o=(MRe.al kids).findIdx? fun k=> k.op==0:=⟨_,rfl⟩;rw [←ds] at aC
  cases o with
  | none=>
   have aD:=C (show R=none from aC);clear aC;rw [LI,←ds] at xp;dsimp only [yU] at xp;clear ds;obtain ⟨ar,c1,c2,an,av,ay,ax,az⟩:=bI.o.ez;go_enter Tryz.func79,Tryz.ntmps79
   go_upto_region 1 with fail
   rw [←c7.o,←aB.o];go_wp2_with fail
   refine Calls.mono (xp.o _ aH.o) ?_;rintro e w2 ⟨rfl,hk2⟩;have aU:=C hk2;clear hk2;obtain ⟨z0,z1,z2,z3,z4,z5,b9,cc,cj,cw,bQ⟩:=gR aB.o aH.o aU.o ba.o;go_wp2;refine rt cw.o ?_;exact dc.dL aD.o rfl bQ.o
  | some i=>
   have aQ:=RV ds.symm;rw [MRe.ee] at aQ;have mq:=C (fun (q0:MRe) (h:q0.ab=hF 2 (MRe.al kids) i (i + 1) [])=> show R=some q0.ab by rw [aC,h];rfl);have vs:=C (show ∀ x∈([]:List Nat),x∈(MRe.node 2 sa sc set ka kc kids mn mx mode n neg).aw∨U + 2≤x from fun _ h=> by simp at h);have mN:IntKind.i64.wrap ((i:Int) + 1)=(i:Int) + 1:=IntWalk.i64_in _ (by have:=fY.o;omega);have kn:(0:Int)≤(i:Int):=by omega
   have Ad:¬ (i:Int) < 0:=by omega
   rw [LI,←ds] at xp;dsimp only [yU] at xp;clear ds aC;obtain ⟨ar,c1,c2,an,av,ay,ax,az⟩:=bI.o.ez;go_enter Tryz.func79,Tryz.ntmps79
   go_upto_region 1 with fail
   rw [←c7.o,←aB.o];go_wp2_with fail
   refine Calls.mono (xp.o _ aH.o) ?_;rintro e w2 ⟨rfl,hk2⟩;have oq:=C hk2;obtain ⟨u0,u1,u2,u3,u4,u5,u6,u7⟩:=oq.o.au ar c1 c2 an av ay ax az;have cW:=C (eX.o _ (aH.o.trans hk2) i aQ fY.o);clear hk2 ar c1 c2 an av ay ax az;go_wp2_with fail
   refine Calls.mono cW.o ?_;rintro e fN ⟨ae,rfl,a7,aT,cU,hqf⟩;have pM:=C cU;have gu:=C (oq.o.trans cU);have dK:=C a7;have dA:=C aT;have et:=C hqf;obtain ⟨q0,bN⟩:∃ q0,q0=ae:=⟨_,rfl⟩;rw [←bN] at dK dA et;have dt:=C bN;clear a7 aT cU hqf bN;obtain ⟨bA,bB,bC,bD,bs,bt,bu,bo,bx,bw,bp,bz⟩:=ae;simp only [MRe.val];obtain ⟨z0,z1,z2,z3,z4,z5,b9,cc,cj⟩:=ew (gu.o.h ba.o);clear u0 u1 u2 u3 u4 u5 u6 u7;go_wp2;have hfr:=vp et.o vs.o (Nat.le_trans hC.o oq.o.size);rw [dt.o] at hfr;obtain ⟨aY,cm,fy,gB⟩:=nd aB.o aH.o gu.o ba.o (by rw [←dt.o];exact dA.o) hfr eU.o;refine rt aY ?_;exact dc.iI (.node bA bB bC bD bs bt bu bo bx bw bp bz) (by rw [←dt.o];exact mq.o q0 dK.o) rfl cm fy gB
 ·have aD:=C (show R=none from aC.trans (if_neg a1));clear aC;have lk:(op !=2)=true:=by simpa using a1
  obtain ⟨ar,c1,c2,an,av,ay,ax,az⟩:=bI.o.ez;go_enter Tryz.func79,Tryz.ntmps79
  go_upto_region 1 with fail
  rw [←c7.o,←aB.o];obtain ⟨z0,z1,z2,z3,z4,z5,b9,cc,cj,cw,bQ⟩:=gR aB.o aH.o hj.o ba.o;go_wp2;refine rt cw.o ?_;exact dc.dL aD.o rfl bQ.o
theorem aiP:n2 140:=mf Tryz.func140 (by kernel_rfl) rfl
theorem ak1 (m:MRe) (o:Int) (g:Nat) (w:World) (hg:w.cell? ⟨g,0,none⟩=some (H J o)):Calls Tryz.prog 140 #[m.val,.pointer (some ⟨g,0,none⟩)] w fun e w'=> e=.returned (F (m.ab.op==o))∧I [] w w':=by
 obtain ⟨op1,aM,aN,set1,aS,kc1,aq,mn1,aI,mode1,n1,aL⟩:=m;have ds:(MRe.ab (.node op1 aM aN set1 aS kc1 aq mn1 aI mode1 n1 aL)).op=op1:=rfl;rw [ds];simp only [MRe.val];have ua:=(I.a1 w (bf op1 aM set1 aN aS aq kc1 mn1 aI mode1 n1 aL)).c hg;clear ds
 by_cases h:op1=o
 ·subst h;have ad:(op1==op1)=true:=by simp
  rw [ad];go_enter Tryz.func140,Tryz.ntmps140
  go_wp2;go_ret;exact ⟨rfl,I.a1 _ _⟩
 ·have ad:(op1==o)=false:=by simpa using h
  rw [ad];go_enter Tryz.func140,Tryz.ntmps140
  go_wp2;go_ret;exact ⟨rfl,I.a1 _ _⟩
def xd (o:Int) (t:Tree):Option Tree:=if t.op=o then (t.kids.findIdx? fun k=> k.op==o).map fun i=> hF t.op t.kids i (i + 1) (t.kids.getD i .nil).kids else none
theorem IC {w aE W:World} {aG T:Nat} {src:List Nat} {op sa sc set ka kc kids mn mx mode n neg} (fP:w.heap.size≤aG) (mj:I [] w aE) (lF:I [] aE W) (aW:aE.heap[aG]? =some (.cells #[H J 0,M none 0 0,M none 0 0,H J 0,H J 0,H J 0,H J 0,F false] T (0,0)))
  (Gx:MRe.aK W (.node op sa sc set ka kc kids mn mx mode n neg)) (AD:du (aG + 1) src (MRe.node op sa sc set ka kc kids mn mx mode n neg).aw) (aQ:∀ b∈src,b < w.heap.size):
  (hE W aG (H J op) (M sa set.length sc) (M ka kids.length kc) (H J mn) (H J mx) (H J mode) (H J n) (F neg)).heap[aG]? =some (.cells #[H J op,M sa set.length sc,M ka kids.length kc,H J mn,H J mx,H J mode,H J n,F neg] T (0,0))∧
  MRe.aK (hE W aG (H J op) (M sa set.length sc) (M ka kids.length kc) (H J mn) (H J mx) (H J mode) (H J n) (F neg)) (.node op sa sc set ka kc kids mn mx mode n neg)∧
  I [] w (hE W aG (H J op) (M sa set.length sc) (M ka kids.length kc) (H J mn) (H J mx) (H J mode) (H J n) (F neg))∧
  du w.heap.size src (MRe.node op sa sc set ka kc kids mn mx mode n neg).aw:=by
 have cU:=jv W aG (H J op) (M sa set.length sc) (M ka kids.length kc) (H J mn) (H J mx) (H J mode) (H J n) (F neg);refine ⟨rm (lF.h aW) _ _ _ _ _ _ _ _,Gx.bG cU fun b ad=> ?_,(mj.trans lF).cn cU (by intro x hx;simp at hx;subst hx;exact .inr fP),fun b ad=> ?_⟩
 ·rcases AD b ad with h | h
  ·have:=aQ b h;simp;omega
  ·simp;omega
 ·rcases AD b ad with h | h
  ·exact .inl h
  ·exact .inr (by omega)
theorem abj (m:MRe) (o:Int) (w:World) (aj:m.aK w) (ad:m.ab.bm≤100000):
  Calls Tryz.prog 111 #[m.val,H J o] w (dc w m.aw (xd o m.ab)):=by
 obtain ⟨R,aC⟩:∃ R,R=xd o m.ab:=⟨_,rfl⟩;rw [←aC];have eX:=C (fun (W:World) (h:I [] w W) (i:Nat)=> GH m i (i + 1));have eU:=C aj.fi;obtain ⟨op,sa,sc,set,ka,kc,kids,mn,mx,mode,n,neg⟩:=m;have fY:=C (lG ad).1;have nz:=C (lG ad).2.2;obtain ⟨U,cd⟩:∃ U,U=w.heap.size:=⟨_,rfl⟩;obtain ⟨aE,cz⟩:∃ aE,aE=((w.alloc (bf op sa set sc ka kids kc mn mx mode n neg)).alloc (.cells #[H J o] 3)).alloc cO:=⟨_,rfl⟩;have cq:I [] w aE:=by rw [cz];exact I.a3 _ _ _ _
 have cZ:U + 3≤aE.heap.size:=by rw [cz,cd];simp
 have aW:aE.heap[U + 1 + 1]? =some cO:=by
  rw [cz,cd];have h:=heap_alloc_new ((w.alloc (bf op sa set sc ka kids kc mn mx mode n neg)).alloc (.cells #[H J o] 3)) cO
  simpa using h
 have hq:aE.cell? ⟨U + 1,0,none⟩=some (H J o):=by
  rw [cz,cd];exact (I.a1 _ _).cell (cell_of_row (heap_alloc2_new w _ _)) (by simp)
 have hx:aE.heap[U]? =some (bf op sa set sc ka kids kc mn mx mode n neg):=by
  rw [cz,cd];exact (I.a2 _ _ _).heap (heap_alloc_new w _) (by simp)
 have aB:=C cd;have c7:=C cz;have aH:=C cq;have hC:=C cZ;have ba:=C aW;obtain ⟨ar,c1,c2,an,av,ay,ax,az⟩:=eR hx;have hj:=C (I.refl [] aE);replace aC:R=if op=o then ((MRe.al kids).findIdx? fun k=> k.op==o).map fun i=> hF op (MRe.al kids) i (i + 1) ((MRe.al kids).getD i .nil).kids else none:=aC;simp only [MRe.val];have xp:=C (T8 140 #[.pointer (some ⟨U + 1,0,none⟩)] (fun k=> k.op==o) ka kc kids aE aiP (aj.kids.ah cq) (fun k _ ak jB=> ak1 k o (U + 1) ak (jB.c hq)));have ec:=C aj;have m8:∀ (fn:Fn) (first cap:Array Value) (w:World),(Instr.makeFunc fn first cap).run Tryz.prog w=.ok (.func fn first cap) w:=fun _ _ _ _=> rfl;clear cZ ad aj cd cz cq aW hx
 by_cases a1:op=o
 ·subst a1;have hne:(op !=op)=false:=by simp
  rw [if_pos rfl] at aC;obtain ⟨mR,ds⟩:∃ mR,mR=(MRe.al kids).findIdx? fun k=> k.op==op:=⟨_,rfl⟩;rw [←ds] at aC
  cases mR with
  | none=>
   rw [LI,←ds] at xp;dsimp only [yU] at xp;have aD:=C (show R=none from aC);clear ds aC;go_enter Tryz.func111,Tryz.ntmps111
   go_upto_region 1 with fail
   rw [←c7.o,←aB.o];go_wp2_with fail
   refine Calls.mono xp.o ?_;rintro e w2 ⟨rfl,hk2⟩;have aU:=C hk2;clear hk2;obtain ⟨z0,z1,z2,z3,z4,z5,b9,cc,cj⟩:=ew (aU.o.h ba.o);obtain ⟨aY,cm,fy,gB⟩:=IC (op:=0) (sa:=none) (sc:=0) (set:=[]) (ka:=none) (kc:=0) (kids:=[]) (mn:=0) (mx:=0) (mode:=0) (n:=0) (neg:=false) (by rw [←aB.o];omega) aH.o aU.o ba.o (MRe.aK.nil _) (fun x hx=> by simp [MRe.aw,MRe.dN,df] at hx) eU.o;have eo:=C aY;have fS:=C fy;clear aY cm fy gB;go_wp2;refine rt eo.o ?_;exact dc.dL aD.o rfl fS.o
  | some i=>
   have aQ:=RV ds.symm;rw [MRe.ee] at aQ;have hg:(MRe.al kids).getD i .nil=kids[i].ab:=by rw [List.getD_eq_getElem?_getD,List.getElem?_eq_getElem (by rw [MRe.ee];omega),Option.getD_some,kQ]
   obtain ⟨b,off,rfl,lk,v8⟩:=ec.o.ch.dy (by omega);have sV:=v8 i aQ;have cm:=ec.o.dy (List.getElem_mem aQ);have hbl:=mF (op:=op) (sa:=sa) (sc:=sc) (set:=set) (ka:=some ⟨b,off,none⟩) (kc:=kc) (mn:=mn) (mx:=mx) (mode:=mode) (n:=n) (neg:=neg) (List.getElem_mem aQ);have hbk:=nz.o _ (List.getElem_mem aQ);have hcap:=ec.o.ch.cap;have fc:=ec.o.ch.le;unfold maxLen at hcap;obtain ⟨dq,je⟩:∃ dq,dq=kids[i]:=⟨_,rfl⟩;rw [←je] at hg sV cm hbl hbk;obtain ⟨op1,aM,aN,set1,aS,kc1,aq,mn1,aI,mode1,n1,aL⟩:=dq;have SJ:=(lG hbk).1;have mq:=C (fun (q0:MRe) (h:q0.ab=hF op (MRe.al kids) i (i + 1) (MRe.al aq))=> show R=some q0.ab by rw [aC,h,Option.map_some,hg];rfl);have vs:=C (show ∀ x∈MRe.dN aq,x∈(MRe.node op sa sc set (some ⟨b,off,none⟩) kc kids mn mx mode n neg).aw∨U + 1 + 1 + 1≤x from fun x hx=> .inl (hbl x (by simp only [MRe.aw,List.mem_append];exact .inr (.inr hx))));have AX:=C cm.kids;have ea:=aH.o.cell sV.node.c2 (by simp);have mN:IntKind.i64.wrap ((i:Int) + 1)=(i:Int) + 1:=IntWalk.i64_in _ (by have:=fY.o;omega);have kn:(0:Int)≤(i:Int):=by omega
   have Ad:¬ (i:Int) < 0:=by omega
   have K7:(i:Int) < (kids.length:Int):=by omega
   have GY:=C SJ;rw [LI,←ds] at xp;dsimp only [yU] at xp;clear aC ds hg v8 sV cm hbl hbk je SJ;go_enter Tryz.func111,Tryz.ntmps111
   go_upto_region 1 with fail
   rw [←c7.o,←aB.o];go_wp2_with fail
   refine Calls.mono xp.o ?_;rintro e w2 ⟨rfl,hk2⟩;have oq:=C hk2.drew;obtain ⟨u0,u1,u2,u3,u4,u5,u6,u7⟩:=hk2.au ar c1 c2 an av ay ax az;have dp:=hk2.c ea;have hs:=eX.o w2 (aH.o.trans hk2) i aS kc1 aq w2.drew (ec.o.ah ((aH.o.trans hk2).drew)) (AX.o.ah ((aH.o.trans hk2).drew)) (by omega) (by show i + 1≤kids.length;omega) (by show 0 < kids.length;omega) (by show kids.length + aq.length≤1000000;have:=fY.o;have:=GY.o;omega);rw [show ((i + 1:Nat):Int)=(i:Int) + 1 by omega] at hs;have cW:=C hs;clear hk2 ar c1 c2 an av ay ax az ea hq hs;go_wp2;refine rg (S:=fun w'=> (iK w' U op sa set sc (some ⟨b,off,none⟩) kids kc mn mx mode n neg)∧w'.cell? ⟨b,off + i * 8 + 2,none⟩=some (M aS aq.length kc1)) (fun _ k=> ⟨(k.au u0 u1 u2 u3 u4 u5 u6 u7),k.c dp⟩) fun bM aF=> ?_;refine ag 0 ?_;refine ag 1 ?_;refine ag 2 ?_;refine ag 3 ?_;refine ag 4 ?_;refine ag 5 ?_;refine ag 6 ?_;refine ag 7 ?_;refine ag 8 ?_;refine ag 9 ?_;refine bh 10 fun ai af=> ?_;go_simp
   go_at_call 114
   refine Calls.mono cW.o ?_;rintro e fN ⟨ae,rfl,a7,aT,cU,hqf⟩;have pM:=C cU;have gu:=C (oq.o.trans cU);have dK:=C a7;have dA:=C aT;have et:=C hqf;obtain ⟨q0,bN⟩:∃ q0,q0=ae:=⟨_,rfl⟩;rw [←bN] at dK dA et;have dt:=C bN;clear a7 aT cU hqf bN;obtain ⟨bA,bB,bC,bD,bs,bt,bu,bo,bx,bw,bp,bz⟩:=ae;simp only [MRe.val];have C2:=C ((I.refl [] w2).drew.trans pM.o);obtain ⟨z0,z1,z2,z3,z4,z5,b9,cc,cj⟩:=ew (gu.o.h ba.o);refine af.out _ _ (bM.o _ C2.o) fun aF=> ?_;clear af ai;try go_frame
   refine ag 11 ?_;refine ag 12 ?_;refine bh 13 fun ai af=> ?_;go_simp;have yF:b < U:=by rw [aB.o];exact lk
   have iW:=C ((C2.o.mono (S':=[U + 1 + 1]) (by simp)).trans (jv fN (U + 1 + 1) (H J bA) (M bB bD.length bC) (M bs bu.length bt) (H J bo) (H J bx) (H J bw) (H J bp) (F bz)));refine af.out _ _ (⟨⟨iW.o.cell u0 (by simp <;> omega),iW.o.cell u1 (by simp <;> omega),iW.o.cell u2 (by simp <;> omega),iW.o.cell u3 (by simp <;> omega),iW.o.cell u4 (by simp <;> omega),iW.o.cell u5 (by simp <;> omega),iW.o.cell u6 (by simp <;> omega),iW.o.cell u7 (by simp <;> omega)⟩,iW.o.cell dp (by simp <;> omega)⟩) (fun aF=> ?_);clear af ai;try go_frame
   refine ag 14 ?_;refine dR ?_;have hfr:=vp et.o vs.o (Nat.le_trans (show U + 1 + 1 + 1≤aE.heap.size from hC.o) oq.o.size);rw [dt.o] at hfr;obtain ⟨aY,cm,fy,gB⟩:=IC (by rw [←aB.o];omega) aH.o gu.o ba.o (by rw [←dt.o];exact dA.o) hfr eU.o;have eo:=C aY;have ey:=C cm;have fS:=C fy;have fT:=C gB;clear aY cm fy gB hfr z0 z1 z2 z3 z4 z5 b9 cc cj u0 u1 u2 u3 u4 u5 u6 u7 dp aF;go_wp2;refine rt eo.o ?_;exact dc.iI (.node bA bB bC bD bs bt bu bo bx bw bp bz) (by rw [←dt.o];exact mq.o q0 dK.o) rfl ey.o fS.o fT.o
 ·have aD:=C (show R=none from aC.trans (if_neg a1));have lk:(op !=o)=true:=by simpa using a1
  clear aC;go_enter Tryz.func111,Tryz.ntmps111
  go_upto_region 1 with fail
  rw [←c7.o,←aB.o];obtain ⟨z0,z1,z2,z3,z4,z5,b9,cc,cj⟩:=ew ba.o;obtain ⟨aY,cm,fy,gB⟩:=IC (op:=0) (sa:=none) (sc:=0) (set:=[]) (ka:=none) (kc:=0) (kids:=[]) (mn:=0) (mx:=0) (mode:=0) (n:=0) (neg:=false) (by rw [←aB.o];omega) aH.o hj.o ba.o (MRe.aK.nil _) (fun x hx=> by simp [MRe.aw,MRe.dN,df] at hx) eU.o;have eo:=C aY;have fS:=C fy;clear aY cm fy gB;go_wp2;refine rt eo.o ?_;exact dc.dL aD.o rfl fS.o
def oK (seen:List Tree):List Tree→Option Nat
 | []=> none
 | k::ks=> if (seen.any fun o=> iQ o k)=true then some 0 else (oK (seen ++ [k]) ks).map (· + 1)
def CX (t:Tree):Option Tree:=if t.op=3 then (oK [] t.kids).map fun i=> hF 3 t.kids i (i + 1) [] else none
theorem adZ {l:List Tree} {k:Nat} {x:Tree} {r:List Tree} {o:Option Nat} (dB:l.drop k=x::r) (hn:((l.take k).any fun o=> iQ o x)=false) (h:(oK (l.take k) (l.drop k)).map (· + k)=o):(oK (l.take (k + 1)) (l.drop (k + 1))).map (· + (k + 1))=o:=by
 have hk:k < l.length:=by
  rcases Nat.lt_or_ge k l.length with h1 | h1
  ·exact h1
  ·rw [List.drop_of_length_le h1] at dB;cases dB
 have hx:l[k]=x:=by rw [List.drop_eq_getElem_cons hk] at dB;exact (List.cons.inj dB).1
 have aO:l.drop (k + 1)=r:=by rw [List.drop_eq_getElem_cons hk] at dB;exact (List.cons.inj dB).2
 rw [dB,oK,if_neg (by rw [hn];simp)] at h;have ht:=List.take_append_getElem hk;rw [hx] at ht;rw [aO,←ht,←h]
 cases oK (l.take k ++ [x]) r with
 | none=> rfl
 | some i=> simp;omega
theorem adX {l:List Tree} {k:Nat} {x:Tree} {r:List Tree} {o:Option Nat} (dB:l.drop k=x::r) (hn:((l.take k).any fun o=> iQ o x)=true) (h:(oK (l.take k) (l.drop k)).map (· + k)=o):o=some k:=by
 rw [dB,oK,if_pos hn] at h;rw [←h];simp
theorem aiV:n2 116:=mf Tryz.func116 (by kernel_rfl) rfl
theorem aoA (m k:MRe) (g:Nat) (w:World) (aj:m.aK w) (cV:k.aK w) (hg:w.heap[g]? =some (.cells k.row.toArray 26 (0,0))):
  Calls Tryz.prog 116 #[m.val,.pointer (some ⟨g,0,none⟩)] w fun e w'=> e=.returned (F (iQ m.ab k.ab))∧I [] w w':=by
 have gw:=C (fun (W:World) (h:I [] w W)=> Hx m k W (aj.ah h) (cV.ah h));obtain ⟨ae,hq⟩:∃ ae,ae=iQ m.ab k.ab:=⟨_,rfl⟩;rw [←hq] at gw ⊢;clear hq aj cV;obtain ⟨op1,aM,aN,set1,aS,kc1,aq,mn1,aI,mode1,n1,aL⟩:=m;obtain ⟨op2,cg,cf,bj,ct,kc2,a8,mn2,bY,bX,bn,bZ⟩:=k;have hg:w.heap[g]? =some (bf op2 cg bj cf ct a8 kc2 mn2 bY bX bn bZ):=hg;obtain ⟨ar,c1,c2,an,av,ay,ax,az⟩:=eR ((I.a1 w (bf op1 aM set1 aN aS aq kc1 mn1 aI mode1 n1 aL)).h hg);simp only [MRe.val] at gw ⊢;clear hg;go_enter Tryz.func116,Tryz.ntmps116
 go_wp2_with fail
 refine Calls.mono (gw.o _ (I.a1 w _)) ?_;rintro e w2 ⟨rfl,hk⟩;have b6:=C ((I.a1 w _).trans hk);clear hk;go_wp2;go_ret;exact ⟨rfl,b6.o⟩
theorem aoD (m:MRe) (w:World) (aj:m.aK w) (ad:m.ab.bm≤100000):
  Calls Tryz.prog 80 #[m.val] w (dc w m.aw (CX m.ab)):=by
 obtain ⟨R,aC⟩:∃ R,R=CX m.ab:=⟨_,rfl⟩;rw [←aC];have eX:=C (fun (W:World) (h:I [] w W) (i:Nat)=> Pq m i W (aj.ah h));have eU:=C aj.fi;obtain ⟨op,sa,sc,set,ka,kc,kids,mn,mx,mode,n,neg⟩:=m;have fY:=C (lG ad).1;obtain ⟨U,aE,aB,c7,bI,ba,cZ,aH⟩:=rS w op sa sc set ka kc kids mn mx mode n neg;have hC:=C cZ;have hj:=C (I.refl [] aE);replace aC:R=if op=3 then (oK [] (MRe.al kids)).map fun i=> hF 3 (MRe.al kids) i (i + 1) [] else none:=aC;simp only [MRe.val];have m8:∀ (fn:Fn) (first cap:Array Value) (w:World),(Instr.makeFunc fn first cap).run Tryz.prog w=.ok (.func fn first cap) w:=fun _ _ _ _=> rfl;clear cZ ad
 by_cases a1:op=3
 ·subst a1;rw [if_pos rfl] at aC;have dW:=C aC;have ec:=C aj;have hcap:=aj.ch.cap;have fc:=aj.ch.le;unfold maxLen at hcap;clear aC aj;obtain ⟨ar,c1,c2,an,av,ay,ax,az⟩:=bI.o.ez;go_enter Tryz.func80,Tryz.ntmps80
  go_upto_region 1 with fail
  rw [←c7.o,←aB.o];go_wp2
  go_loopw [13] (fun i wr=> ∃ k:Nat,k≤kids.length∧i=H J k∧(oK ((MRe.al kids).take k) ((MRe.al kids).drop k)).map (· + k)=oK [] (MRe.al kids)∧I [] aE wr) (fun i _=> kids.length - (intOf i).toNat)
  case atStart=> exact ⟨0,Nat.zero_le _,rfl,by rw [List.drop_zero,List.take_zero];cases oK [] (MRe.al kids) <;> rfl,I.refl _ _⟩
  case round=>
   obtain ⟨k,hk,rfl,hl,ck⟩:=hrel;have jG:=C hl;have cX:=C ck;obtain ⟨t0,t1,fu,t3,t4,t5,jm,jn⟩:=ck.au ar c1 c2 an av ay ax az;clear hl ck ar c1 c2 an av ay ax az
   by_cases aQ:k < kids.length
   ·have gi:=C (wt kids k aQ);obtain ⟨b,off,rfl,lk,hx⟩:=ec.o.ch.dy (by omega);have sV:=hx k aQ;have cm:=ec.o.dy (List.getElem_mem aQ);obtain ⟨dq,je⟩:∃ dq,dq=kids[k]:=⟨_,rfl⟩;rw [←je] at sV cm gi;have jq:=C cm;have AX:=C (show gT w (some ⟨b,off,none⟩) kc (kids.take k) from ⟨ec.o.ch.take k,fun x hx=> ec.o.dy (List.mem_of_mem_take hx)⟩);have rM:(kids.take k).length=k:=by rw [List.length_take];omega
    obtain ⟨k5,hD⟩:∃ k5,k5=dq:=⟨_,rfl⟩;rw [←hD] at gi jq;have uH:=C hD;obtain ⟨op1,aM,aN,set1,aS,kc1,aq,mn1,aI,mode1,n1,aL⟩:=dq;have g:=sV.node;obtain ⟨bg,aV,a6,bl,bq,bE,bF,bH⟩:=id g;have bK:=(aH.o.trans cX.o).c bg;have d1:=(aH.o.trans cX.o).c aV;have d2:=(aH.o.trans cX.o).c a6;have bL:=(aH.o.trans cX.o).c bl;have bO:=(aH.o.trans cX.o).c bq;have bT:=(aH.o.trans cX.o).c bE;have bU:=(aH.o.trans cX.o).c bF;have bV:=(aH.o.trans cX.o).c bH;have gQ:∀ W:World,(Instr.sliceAt 24 (M (some ⟨b,off,none⟩) kids.length kc) none (some (H J k)) none).run Tryz.prog W=.ok (M (some ⟨b,off,none⟩) k kc) W:=by
     intro W;have q2:(k:Int)≤kc:=by omega
     simp [go_sem,q2]
    have o2:MRe.al (kids.take k)=(MRe.al kids).take k:=Mk kids k;clear je cm sV hx g bg aV a6 bl bq bE bF bH hD;go_upto_region 6 with fail
    obtain ⟨dJ,n4⟩:∃ dJ,dJ=wr.heap.size:=⟨_,rfl⟩;obtain ⟨aA,c5⟩:∃ aA,aA=wr.alloc (bf op1 aM set1 aN aS aq kc1 mn1 aI mode1 n1 aL):=⟨_,rfl⟩;have eZ:I [] wr aA:=by rw [c5];exact I.a1 _ _
    have sQ:aA.heap[dJ]? =some (bf op1 aM set1 aN aS aq kc1 mn1 aI mode1 n1 aL):=by rw [c5,n4];exact heap_alloc_new wr _
    rw [←c5,←n4];have aZ:=C (cX.o.trans eZ);have vt:=RK 116 #[.pointer (some ⟨dJ,0,none⟩)] (fun o=> iQ o k5.ab) (some ⟨b,off,none⟩) kc (kids.take k) aA aiV (AX.o.ah (aH.o.trans aZ.o)) (fun x hx ak jB=> aoA x k5 dJ ak ((AX.o.ah ((aH.o.trans aZ.o).trans jB)).all x hx) (jq.o.ah ((aH.o.trans aZ.o).trans jB)) (by rw [uH.o];exact jB.h sQ));rw [rM,o2] at vt;have qG:=fun h=> adX (l:=MRe.al kids) (k:=k) gi.o h jG.o;have TL:=fun h=> adZ (l:=MRe.al kids) (k:=k) gi.o h jG.o;obtain ⟨z,aW⟩:∃ z,z=((MRe.al kids).take k).any fun o=> iQ o k5.ab:=⟨_,rfl⟩;rw [←aW] at vt qG TL;have vt:=C vt;have fx:=C qG;have fq:=C TL;obtain ⟨c6,y1,dp,eb,ef,ej,ek,el⟩:=eZ.au t0 t1 fu t3 t4 t5 jm jn;clear n4 c5 eZ sQ qG TL aW o2 t0 t1 fu t3 t4 t5 jm jn bK d1 d2 bL bO bT bU bV;go_wp2_with fail
    refine Calls.mono vt.o ?_;rintro e w3 ⟨rfl,aP⟩;have aR:=C (aZ.o.trans aP);obtain ⟨u0,u1,u2,u3,u4,u5,u6,u7⟩:=aP.au c6 y1 dp eb ef ej ek el;clear aP c6 y1 dp eb ef ej ek el
    cases z with
    | true=>
     have oA:=fx.o rfl;have mq:=C (fun (q0:MRe) (h:q0.ab=hF 3 (MRe.al kids) k (k + 1) [])=> show R=some q0.ab by rw [dW.o,oA,h];rfl);have vs:=C (show ∀ x∈([]:List Nat),x∈(MRe.node 3 sa sc set (some ⟨b,off,none⟩) kc kids mn mx mode n neg).aw∨U + 2≤x from fun _ h=> by simp at h);have mN:IntKind.i64.wrap ((k:Int) + 1)=(k:Int) + 1:=IntWalk.i64_in _ (by omega);have oq:=C aR.o;have cW:=C (eX.o _ (aH.o.trans aR.o) k aQ fY.o);clear oA;go_wp2_with fail
     refine Calls.mono cW.o ?_;rintro e fN ⟨ae,rfl,a7,aT,cU,hqf⟩;have pM:=C cU;have gu:=C (oq.o.trans cU);have dK:=C a7;have dA:=C aT;have et:=C hqf;obtain ⟨q0,bN⟩:∃ q0,q0=ae:=⟨_,rfl⟩;rw [←bN] at dK dA et;have dt:=C bN;clear a7 aT cU hqf bN;obtain ⟨bA,bB,bC,bD,bs,bt,bu,bo,bx,bw,bp,bz⟩:=ae;simp only [MRe.val];obtain ⟨z0,z1,z2,z3,z4,z5,b9,cc,cj⟩:=ew (gu.o.h ba.o);clear u0 u1 u2 u3 u4 u5 u6 u7;go_wp2;have hfr:=vp et.o vs.o (Nat.le_trans hC.o oq.o.size);rw [dt.o] at hfr;obtain ⟨aY,cm,fy,gB⟩:=nd aB.o aH.o gu.o ba.o (by rw [←dt.o];exact dA.o) hfr eU.o;refine rt aY ?_;exact dc.iI (.node bA bB bC bD bs bt bu bo bx bw bp bz) (by rw [←dt.o];exact mq.o q0 dK.o) rfl cm fy gB
    | false=>
     have j3:=C (fq.o rfl);clear u0 u1 u2 u3 u4 u5 u6 u7;go_wp2;go_roundw
     case rel=> exact ⟨k + 1,by omega,by go_num,j3.o,aR.o⟩
     case measure=> simp [intOf];omega
   ·obtain rfl:k=kids.length:=by omega
    have h0:oK [] (MRe.al kids)=none:=by rw [←jG.o,List.drop_of_length_le (by rw [MRe.ee];omega)];rfl
    have aD:=C (show R=none by rw [dW.o,h0];rfl);clear h0;obtain ⟨z0,z1,z2,z3,z4,z5,b9,cc,cj,cw,bQ⟩:=gR aB.o aH.o cX.o ba.o;go_wp2;refine rt cw.o ?_;exact dc.dL aD.o rfl bQ.o
 ·have aD:=C (show R=none from aC.trans (if_neg a1));have lk:(op !=3)=true:=by simpa using a1
  clear aC aj;obtain ⟨ar,c1,c2,an,av,ay,ax,az⟩:=bI.o.ez;go_enter Tryz.func80,Tryz.ntmps80
  go_upto_region 1 with fail
  rw [←c7.o,←aB.o];obtain ⟨z0,z1,z2,z3,z4,z5,b9,cc,cj,cw,bQ⟩:=gR aB.o aH.o hj.o ba.o;go_wp2;refine rt cw.o ?_;exact dc.dL aD.o rfl bQ.o
def xh (t:Tree):List Int:=[t.op,(t.set.length:Int)] ++ (t.set.flatMap fun s=> [s.1,s.2]) ++ [t.mn,t.mx,t.mode,t.n,rb t.neg,(t.kids.length:Int)]
def o3:List Int→List Int→Int
 | a::r,b::s=> if a < b then -1 else if b < a then 1 else o3 r s
 | _,_=> 0
theorem Uh (l m:List Int):o3 l m=ik (l.zip m):=by
 induction l generalizing m with
 | nil=> simp [o3,ik]
 | cons x xs ih=>
  cases m with
  | nil=> simp [o3,ik]
  | cons y kZ=> simp only [o3,List.zip_cons_cons,ik,ih]
theorem OM {a b c d:List Int} (h:a.length=b.length):o3 (a ++ c) (b ++ d)=if o3 a b≠0 then o3 a b else o3 c d:=by
 rw [Uh,Uh,Uh,List.zip_append h,Ee]
theorem RZ (l:List (Int × Int)):(l.flatMap fun s=> [s.1,s.2]).length=2 * l.length:=by
 induction l with
 | nil=> rfl
 | cons x xs ih=> simp only [List.flatMap_cons,List.length_append,List.length_cons,List.length_nil,ih];omega
theorem abN:∀ (l m:List (Int × Int)),l.length=m.length→o3 (l.flatMap fun s=> [s.1,s.2]) (m.flatMap fun s=> [s.1,s.2])=ik (pg l m)
 | [],[],_=> rfl
 | x::xs,y::kZ,h=> by
  simp only [List.flatMap_cons,pg];rw [OM (by simp),Ee,abN xs kZ (by simpa using h)]
  have:o3 [x.1,x.2] [y.1,y.2]=ik (GG x y):=by simp [o3,ik,GG]
  rw [this]
 | [],y::kZ,h=> by simp at h
 | x::xs,[],h=> by simp at h
theorem abM (a b:Tree):o3 (xh a) (xh b)=ik (qO a b):=by
 unfold xh qO
 by_cases h:a.set.length=b.set.length
 ·rw [List.append_assoc,List.append_assoc,OM (by simp),Ee,OM (by rw [RZ,RZ,h]),Ee,abN _ _ h];have aV:o3 [a.op,(a.set.length:Int)] [b.op,(b.set.length:Int)]=ik (xL a b):=by simp [o3,ik,xL]
  have a6:o3 [a.mn,a.mx,a.mode,a.n,rb a.neg,(a.kids.length:Int)] [b.mn,b.mx,b.mode,b.n,rb b.neg,(b.kids.length:Int)]=ik (wi a b):=by simp [o3,ik,wi]
  rw [aV,a6]
 ·have h1:ik (xL a b)≠0:=fun h0=> h (by
   have:=LU h0 ((a.set.length:Int),(b.set.length:Int)) (by simp [xL])
   simp only at this
   omega)
  rw [List.append_assoc,List.append_assoc,OM (by simp),Ee];have aV:o3 [a.op,(a.set.length:Int)] [b.op,(b.set.length:Int)]=ik (xL a b):=by simp [o3,ik,xL]
  rw [aV,if_pos h1,if_pos h1]
theorem Uv (t:Tree):(xh t).length=8 + 2 * t.set.length:=by unfold xh;simp only [List.length_append,RZ,List.length_cons,List.length_nil];omega
theorem acr (w:World) (xs:List Value) (t:Nat):∀ j u,xs[j]? =some u→(w.alloc (.cells xs.toArray t)).drew.cell? ((⟨w.heap.size,0,none⟩:Addr).add j)=some u:=wa w xs t
theorem fb.abB {S:List Nat} {w w':World} {b o:Nat} {m:MRe} (h:fb w b o m) (k:I S w w') (hs:b ∉ S):fb w' b o m:=fun j c8=> k.cell (h j c8) hs
theorem abO {w:World} {b o:Nat} {v:Value} (h:w.cell? ⟨b,o,none⟩=some v):b < w.heap.size:=World.block_lt_of_cell? w _ h
theorem F9:(Tryz.prog.info? 3).map (fun i=> (i.zero,i.size,i.bytes))=some (some (H J 0),1,8):=by kernel_rfl
end Go.Proofs.YtjnlkjlbejelgaaGreat
