/- Part of the proof. No condition: every lemma says its own. -/
import Derived.BigQuiet
import Derived.Lib.QuietBelow
import Derived.Deep.RegionWith
import Derived.Test.YtjnlkjlbejelgaaGreatRSPad
namespace Go.Proofs.YtjnlkjlbejelgaaGreat
open Go.RowKit
open Go.Value renaming int→H,slice→M,bool→F
open Go.IntKind renaming i64→J
open Go.RowKit Go.Sort Go.BigFrame
set_option maxRecDepth 100000
set_option maxHeartbeats 16000000
theorem Uz (ai:Nat) (cap:Array Value) (p:Tree→Tree→Bool) (o:Int) (m:MRe) (w:World) (lX:World→Prop) (Fin:Nat→World→Prop) (he:n2 ai)
  (hi:lX w) (hin:∀ W,lX W→m.aK W) (hfn:∀ i W,Fin i W→m.aK W) (z6:∀ W,lX W→lX W.drew) (hal:∀ W o,lX W→lX (W.alloc o)) (hf:Rc ai cap p m.kids lX Fin):
  Calls Tryz.prog 118 #[m.val,H J o,.func (Fn.func ai) #[] cap] w (B7 lX Fin (qa p o m.ab)):=by
 obtain ⟨op,sa,sc,set,ka,kc,kids,mn,mx,mode,n,neg⟩:=m;have dP:=C (fun W (h:lX W)=> alR ai cap p ka kc kids W lX Fin he h (fun W h=> (hin W h).ch) (fun i W h=> (hfn i W h).ch) z6 hf);have ff:=C (hal w (bf op sa set sc ka kids kc mn mx mode n neg) hi);have hpo:qa p o (MRe.ab (.node op sa sc set ka kc kids mn mx mode n neg))=if op=o then mz p (MRe.al kids) else none:=rfl;rw [hpo];simp only [MRe.val];clear he hi hin hfn z6 hal hf hpo
 by_cases ds:op=o
 ·subst ds;rw [if_pos rfl];have hne:(op !=op)=false:=by simp
  go_enter Tryz.func118,Tryz.ntmps118
  go_wp2_with fail
  refine Calls.mono (dP.o _ ff.o) ?_;intro e w2 jX
  cases hq:mz p (MRe.al kids) with
  | none=>
   rw [hq] at jX;obtain ⟨rfl,da⟩:=jX;have en:=C da;have mo:=C hq;clear da hq;go_wp2
   go_ret2
   exact B7.dL mo.o (-1) rfl en.o
  | some i=>
   rw [hq] at jX;obtain ⟨rfl,da⟩:=jX;have en:=C da;have mo:=C hq;clear da hq;go_wp2
   go_ret2
   exact B7.iI mo.o rfl en.o
 ·rw [if_neg ds];have hne:(op !=o)=true:=by simp [ds]
  go_enter Tryz.func118,Tryz.ntmps118
  go_wp2
  go_ret2
  exact B7.dL rfl 0 rfl ff.o
theorem fb.ez {w:World} {b:Nat} {op sa sc set ka kc kids mn mx mode n neg} (h:fb w b 0 (.node op sa sc set ka kc kids mn mx mode n neg)):w.cell? ⟨b,0,none⟩=some (H J op)∧w.cell? ⟨b,1,none⟩=some (M sa set.length sc)∧w.cell? ⟨b,2,none⟩=some (M ka kids.length kc)∧w.cell? ⟨b,3,none⟩=some (H J mn)∧w.cell? ⟨b,4,none⟩=some (H J mx)∧w.cell? ⟨b,5,none⟩=some (H J mode)∧w.cell? ⟨b,6,none⟩=some (H J n)∧w.cell? ⟨b,7,none⟩=some (F neg):=by
 have g:=h.node;have c1:=g.c1;have c2:=g.c2;have an:=g.an;have av:=g.av;have ay:=g.ay;have ax:=g.ax;have az:=g.az;rw [Nat.zero_add] at c1 c2 an av ay ax az;exact ⟨g.ar,c1,c2,an,av,ay,ax,az⟩
theorem fb.Ns {w:World} {b o:Nat} {op sa sc set ka kc kids mn mx mode n neg} (h:fb w b o (.node op sa sc set ka kc kids mn mx mode n neg)):w.cell? ⟨b,o,none⟩=some (H J op)∧w.cell? ⟨b,o + 1,none⟩=some (M sa set.length sc)∧w.cell? ⟨b,o + 2,none⟩=some (M ka kids.length kc)∧w.cell? ⟨b,o + 3,none⟩=some (H J mn)∧w.cell? ⟨b,o + 4,none⟩=some (H J mx)∧w.cell? ⟨b,o + 5,none⟩=some (H J mode)∧w.cell? ⟨b,o + 6,none⟩=some (H J n)∧w.cell? ⟨b,o + 7,none⟩=some (F neg):=
 ⟨h.node.ar,h.node.c1,h.node.c2,h.node.an,h.node.av,h.node.ay,h.node.ax,h.node.az⟩
theorem Np (w:World) (m:MRe) (T:Nat):fb (w.alloc (.cells m.row.toArray T)) w.heap.size 0 m:=fb.box rfl
theorem Xl (w:World) (m1 m2:MRe) (T:Nat):fb ((w.alloc (.cells m1.row.toArray T)).alloc (.cells m2.row.toArray T)) w.heap.size 0 m1∧fb ((w.alloc (.cells m1.row.toArray T)).alloc (.cells m2.row.toArray T)) (w.heap.size + 1) 0 m2:=by
 refine ⟨(Np w m1 T).ah (I.a1 _ _),?_⟩;have h:=Np (w.alloc (.cells m1.row.toArray T)) m2 T;rw [show (w.alloc (.cells m1.row.toArray T)).heap.size=w.heap.size + 1 by simp] at h;exact h
theorem Hq (w:World) (m:MRe) (T:Nat):fb ((w.alloc (.cells m.row.toArray T)).alloc (.cells #[H J 0,M none 0 0,M none 0 0,H J 0,H J 0,H J 0,H J 0,F false] T)) w.heap.size 0 m∧((w.alloc (.cells m.row.toArray T)).alloc (.cells #[H J 0,M none 0 0,M none 0 0,H J 0,H J 0,H J 0,H J 0,F false] T)).heap[w.heap.size + 1]? =some (.cells #[H J 0,M none 0 0,M none 0 0,H J 0,H J 0,H J 0,H J 0,F false] T (0,0))∧
  w.heap.size + 2≤((w.alloc (.cells m.row.toArray T)).alloc (.cells #[H J 0,M none 0 0,M none 0 0,H J 0,H J 0,H J 0,H J 0,F false] T)).heap.size:=
 ⟨(Np w m T).ah (I.a1 _ _),heap_alloc2_new w _ _,by simp⟩
theorem gT.head {w:World} {ka:Option Addr} {kc:Nat} {kids:List MRe} (h:gT w ka kc kids) (h0:0 < kids.length):∃ (b off:Nat) (k:MRe),ka=some ⟨b,off,none⟩∧k∈kids∧kids[0]? =some k∧fb w b off k∧k.aK w:=by
 obtain ⟨b,off,h1,_,h2⟩:=h.ch.dy h0;have h3:=h2 0 h0;rw [Nat.zero_mul,Nat.add_zero] at h3;exact ⟨b,off,kids[0],h1,List.getElem_mem h0,by simp [h0],h3,h.all _ (List.getElem_mem h0)⟩
theorem oJ {kids:List MRe} {k:MRe} (h:kids[0]? =some k):∃ r,MRe.al kids=k.ab::r:=by
 cases kids with
 | nil=> simp at h
 | cons x xs=> simp at h;subst h;exact ⟨MRe.al xs,rfl⟩
theorem adO {ai:Nat} {cap:Array Value} {p:Tree→Tree→Bool} {kids:List MRe} {w:World}
  (h:∀ a∈kids,∀ b∈kids,∀ W,I [] w W→Calls Tryz.prog ai (#[a.val,b.val] ++ cap) W fun e w'=> e=.returned (F (p a.ab b.ab))∧I [] W w'):Rc ai cap p kids (I [] w) (fun _=> I [] w):=
 fun i hi W l5=> (h kids[i] (List.getElem_mem _) kids[i + 1] (List.getElem_mem _) W l5).mono fun e w' ⟨he,hk⟩=> ⟨he,fun _=> l5.trans hk,fun _=> l5.trans hk⟩
def DL (l m:List Tree):Bool:=match l,m with | a::_,b::_=> iQ a b | _,_=> false
def w5 (x y:Tree):Bool:=x.op==2 && (y.op==2 && (wq x.kids && DL x.kids y.kids))
theorem ajO (m1 m2:MRe) (w:World) (aj:m1.aK w) (cV:m2.aK w) (aJ:m1.ab.dE) (cP:m2.ab.dE):
  Calls Tryz.prog 119 #[m1.val,m2.val] w fun e w'=> e=.returned (F (w5 m1.ab m2.ab))∧I [] w w':=by
 obtain ⟨op1,aM,aN,set1,aS,kc1,aq,mn1,aI,mode1,n1,aL⟩:=m1;obtain ⟨op2,cg,cf,bj,ct,kc2,a8,mn2,bY,bX,bn,bZ⟩:=m2;have gm:w5 (MRe.ab (.node op1 aM aN set1 aS kc1 aq mn1 aI mode1 n1 aL)) (MRe.ab (.node op2 cg cf bj ct kc2 a8 mn2 bY bX bn bZ))=(op1==2 && (op2==2 && (wq (MRe.al aq) && DL (MRe.al aq) (MRe.al a8)))):=rfl;rw [gm];have j6:=Xl w (.node op1 aM aN set1 aS kc1 aq mn1 aI mode1 n1 aL) (.node op2 cg cf bj ct kc2 a8 mn2 bY bX bn bZ) 26;have cq:=I.a2 w (bf op1 aM set1 aN aS aq kc1 mn1 aI mode1 n1 aL) (bf op2 cg bj cf ct a8 kc2 mn2 bY bX bn bZ);have n1:=kB aJ;have bn:=kB cP;simp only [MRe.val]
 by_cases h1:op1=2
 ·by_cases h2:op2=2
  ·subst h1;subst h2;have l1:=n1.vc (.inl rfl);have l2:=bn.vc (.inl rfl);obtain ⟨b1,cR,a,rfl,b8,xI,wX,lj⟩:=aj.kids.head (by omega);obtain ⟨b2,eH,b,rfl,ad,qA,zV,pq⟩:=cV.kids.head (by omega);obtain ⟨ju,t1⟩:=oJ xI;obtain ⟨iz,fu⟩:=oJ qA;rw [t1,fu];have DG:=mS aJ b8;have yG:=mS cP ad;have cW:=C (fun W (h:I [] w W)=> adu a W (lj.ah h) DG);have gw:=C (fun W (h:I [] w W)=> Hx a b W (lj.ah h) (pq.ah h));have da:((2:Int)==2 && ((2:Int)==2 && (wq (a.ab::ju) && DL (a.ab::ju) (b.ab::iz))))=(kN a.ab && iQ a.ab b.ab):=rfl;rw [da];obtain ⟨q1,p3⟩:∃ ae,ae=kN a.ab:=⟨_,rfl⟩;obtain ⟨q2,rf⟩:∃ ae,ae=iQ a.ab b.ab:=⟨_,rfl⟩;rw [←p3] at cW;rw [←rf] at gw;rw [←p3,←rf];have eY:=wX.ah cq;have gA:=zV.ah cq;obtain ⟨op3,dk,dm,set3,di,dj,kids3,cA,cC,cB,cv,cx⟩:=a;obtain ⟨e7,e8,e9,fa,e0,e1,e2,e3,e5,e4,eQ,e6⟩:=b;have g:=eY.node;obtain ⟨ar,c1,c2,an,av,ay,ax,az⟩:=id g;clear g;have g:=gA.node;obtain ⟨bK,d1,d2,bL,bO,bT,bU,bV⟩:=id g;obtain ⟨dv,-,ea,-⟩:=j6.1.ez;obtain ⟨c6,-,dp,-⟩:=j6.2.ez;have i1:(0:Int) < (aq.length:Int):=by omega
   have akX:0 < aq.length:=by omega
   have akY:0 < a8.length:=by omega
   have i2:(0:Int) < (a8.length:Int):=by omega
   simp only [MRe.val] at cW gw;clear g eY gA j6 gm n1 bn wX zV b8 ad xI qA t1 fu da p3 rf aj cV aJ cP lj pq DG yG l1 l2;have m9:q1=false→(q1 && q2)=false:=fun h=> by rw [h];rfl
   have aa0:q1=true→(q1 && q2)=q2:=fun h=> by rw [h];rfl
   have De:=C m9;have Wc:=C aa0;obtain ⟨v,da⟩:∃ v,v=(q1 && q2):=⟨_,rfl⟩;rw [←da] at De Wc ⊢;clear da m9 aa0;obtain ⟨U,cd⟩:∃ U,U=w.heap.size:=⟨_,rfl⟩;simp only [MRe.row] at dv ea c6 dp ar c1 c2 an av ay ax az bK d1 d2 bL bO bT bU bV
   cases q1 with
   | false=>
    go_enter Tryz.func119,Tryz.ntmps119
    go_upto_region 1 with fail
    rw [←cd] at dv ea c6 dp ⊢
    generalize (w.alloc (bf 2 aM set1 aN (some ⟨b1,cR,none⟩) aq kc1 mn1 aI mode1 n1 aL)).alloc (bf 2 cg bj cf (some ⟨b2,eH,none⟩) a8 kc2 mn2 bY bX bn bZ)=aE at *
    clear cd;have nG:∀ d os,Calls Tryz.prog 120 #[.agg #[H J op3,M dk set3.length dm,M di kids3.length dj,H J cA,H J cC,H J cB,H J cv,F cx]] (grow (redrawn aE d) os) fun e jw=> e=.returned (F false)∧∃ p:Regrown,jw=grow (redrawn aE p.d) p.os:=fun d os=> Calls.regrown_of ((cW.o _ (cq.trans (I.kY (below_regrown aE d os)))).mono fun e w' ⟨he,hk⟩=> ⟨he,hk.below (Nat.le_refl _)⟩);have oL:=C nG;have fQ:=cell_regrown dv;have p2:=cell_regrown ea;have gV:=cell_regrown c6;have iz:=cell_regrown dp;have c0:=cell_regrown ar;have cT:=cell_regrown c1;have s2:=cell_regrown c2;have lR:=cell_regrown an;have kM:=cell_regrown av;have kh:=cell_regrown ay;have k7:=cell_regrown ax;have lJ:=cell_regrown az;have Ta:=C cq;clear nG ar c1 c2 an av ay ax az bK d1 d2 bL bO bT bU bV dv ea c6 dp cq;refine wp_region_quiet_below (by kernel_rfl) (by kernel_rfl) ?_
    repeat (go_big_quiet_step (exact oL.o _ _))
    refine wpQuiet_nil ?_;intro _ i7;obtain ⟨dY,jK⟩:=i7;subst jK;have hk:=I.kY (below_regrown aE dY.d dY.os);have b6:=C (Ta.o.trans hk);clear hk fQ p2 gV iz c0 cT s2 lR kM kh k7 lJ
    generalize grow (redrawn aE dY.d) dY.os=aA at *
    go_wp2;go_ret;exact ⟨by rw [De.o (by simp)];rfl,b6.o⟩
   | true=>
    go_enter Tryz.func119,Tryz.ntmps119
    go_upto_region 1 with fail
    rw [←cd] at dv ea c6 dp ⊢
    generalize (w.alloc (bf 2 aM set1 aN (some ⟨b1,cR,none⟩) aq kc1 mn1 aI mode1 n1 aL)).alloc (bf 2 cg bj cf (some ⟨b2,eH,none⟩) a8 kc2 mn2 bY bX bn bZ)=aE at *
    clear cd;have nG:∀ d os,Calls Tryz.prog 120 #[.agg #[H J op3,M dk set3.length dm,M di kids3.length dj,H J cA,H J cC,H J cB,H J cv,F cx]] (grow (redrawn aE d) os) fun e jw=> e=.returned (F true)∧∃ p:Regrown,jw=grow (redrawn aE p.d) p.os:=fun d os=> Calls.regrown_of ((cW.o _ (cq.trans (I.kY (below_regrown aE d os)))).mono fun e w' ⟨he,hk⟩=> ⟨he,hk.below (Nat.le_refl _)⟩);have qx:∀ d os,Calls Tryz.prog 117 #[.agg #[H J op3,M dk set3.length dm,M di kids3.length dj,H J cA,H J cC,H J cB,H J cv,F cx],.agg #[H J e7,M e8 fa.length e9,M e0 e2.length e1,H J e3,H J e5,H J e4,H J eQ,F e6]] (grow (redrawn aE d) os) fun e jw=> e=.returned (F q2)∧∃ p:Regrown,jw=grow (redrawn aE p.d) p.os:=fun d os=> Calls.regrown_of ((gw.o _ (cq.trans (I.kY (below_regrown aE d os)))).mono fun e w' ⟨he,hk⟩=> ⟨he,hk.below (Nat.le_refl _)⟩);have oL:=C nG;have rp:=C qx;have fQ:=cell_regrown dv;have p2:=cell_regrown ea;have gV:=cell_regrown c6;have iz:=cell_regrown dp;have c0:=cell_regrown ar;have cT:=cell_regrown c1;have s2:=cell_regrown c2;have lR:=cell_regrown an;have kM:=cell_regrown av;have kh:=cell_regrown ay;have k7:=cell_regrown ax;have lJ:=cell_regrown az;have t0:=cell_regrown bK;have t1:=cell_regrown d1;have fu:=cell_regrown d2;have t3:=cell_regrown bL;have t4:=cell_regrown bO;have t5:=cell_regrown bT;have jm:=cell_regrown bU;have jn:=cell_regrown bV;have Ta:=C cq;clear nG qx ar c1 c2 an av ay ax az bK d1 d2 bL bO bT bU bV dv ea c6 dp cq;refine wp_region_quiet_below (by kernel_rfl) (by kernel_rfl) ?_
    repeat (go_big_quiet_step (first | exact oL.o _ _ | exact rp.o _ _))
    refine wpQuiet_nil ?_;intro _ i7;obtain ⟨dY,jK⟩:=i7;subst jK;have hk:=I.kY (below_regrown aE dY.d dY.os);have b6:=C (Ta.o.trans hk);clear hk fQ p2 gV iz c0 cT s2 lR kM kh k7 lJ t0 t1 fu t3 t4 t5 jm jn
    generalize grow (redrawn aE dY.d) dY.os=aA at *
    go_wp2;go_ret;exact ⟨by rw [Wc.o (by simp)];rfl,b6.o⟩
  ·have da:(op1==2 && (op2==2 && (wq (MRe.al aq) && DL (MRe.al aq) (MRe.al a8))))=false:=by simp [h2]
   rw [da];subst h1;obtain ⟨dv,-⟩:=j6.1.ez;obtain ⟨c6,-⟩:=j6.2.ez;have Fl:(op2==2)=false:=by simpa using h2
   simp only [MRe.row] at dv c6;clear da gm j6 n1 bn aj cV aJ cP;go_enter Tryz.func119,Tryz.ntmps119
   go_upto_region 1 with fail
   go_quiet (fail)
   go_wp2;go_ret;exact ⟨rfl,cq.drewN _⟩
 ·have da:(op1==2 && (op2==2 && (wq (MRe.al aq) && DL (MRe.al aq) (MRe.al a8))))=false:=by simp [h1]
  rw [da];obtain ⟨dv,-⟩:=j6.1.ez;have NB:(op1==2)=false:=by simpa using h1
  simp only [MRe.row] at dv;clear da gm j6 n1 bn aj cV aJ cP;go_enter Tryz.func119,Tryz.ntmps119
  go_upto_region 1 with fail
  go_quiet (fail)
  go_wp2;go_ret;exact ⟨rfl,cq.drewN _⟩
theorem acg {p:Tree→Tree→Bool}:∀ {l:List Tree} {k:Nat},mz p l=some k→p (l.getD k .nil) (l.getD (k + 1) .nil)=true
 | [],k,h=> by simp [mz] at h
 | [x],k,h=> by simp [mz] at h
 | x::y::r,k,h=> by
  rw [mz] at h
  split at h
  ·rename_i h1;cases h;simpa using h1
  ·cases hn:mz p (y::r) with
   | none=> rw [hn] at h;simp at h
   | some i=>
    rw [hn] at h;simp at h;subst h
    have:=acg hn
    simpa using this
def gE (op:Int) (kids:List Tree):Tree:=.node op [] kids 0 0 0 0 false
theorem Hn (aA:World) (o:Obj):(aA.alloc o).drew.heap[aA.heap.size]? =some o:=heap_alloc_new aA o
theorem IF {w:World} {g T:Nat} (h:w.heap[g]? =some (.cells #[H J 0,M none 0 0,M none 0 0,H J 0,H J 0,H J 0,H J 0,F false] T (0,0))):
  (w.cell? ⟨g,0,none⟩=some (H J 0)∧w.cell? ⟨g,1,none⟩=some (M none 0 0)∧w.cell? ⟨g,2,none⟩=some (M none 0 0)∧w.cell? ⟨g,3,none⟩=some (H J 0)∧w.cell? ⟨g,4,none⟩=some (H J 0)∧w.cell? ⟨g,5,none⟩=some (H J 0)∧w.cell? ⟨g,6,none⟩=some (H J 0)∧w.cell? ⟨g,7,none⟩=some (F false))∧(∀ o,w.frozen? ⟨g,o,none⟩=false)∧(∀ o9 o,(w.alloc o9).frozen? ⟨g,o,none⟩=false)∧(∀ o9,(w.alloc o9).cell? ⟨g,0,none⟩=some (H J 0))∧(∀ o9,(w.alloc o9).cell? ⟨g,1,none⟩=some (M none 0 0))∧(∀ o9,(w.alloc o9).cell? ⟨g,2,none⟩=some (M none 0 0))∧(∀ o9,(w.alloc o9).cell? ⟨g,3,none⟩=some (H J 0))∧(∀ o9,(w.alloc o9).cell? ⟨g,4,none⟩=some (H J 0))∧(∀ o9,(w.alloc o9).cell? ⟨g,5,none⟩=some (H J 0))∧(∀ o9,(w.alloc o9).cell? ⟨g,6,none⟩=some (H J 0))∧(∀ o9,(w.alloc o9).cell? ⟨g,7,none⟩=some (F false)):=by
 have h2:∀ o9,(w.alloc o9).heap[g]? =some (.cells #[H J 0,M none 0 0,M none 0 0,H J 0,H J 0,H J 0,H J 0,F false] T (0,0)):=fun o9=> (I.a1 w o9).h h;refine ⟨by simp [World.cell?,h],by simp [World.frozen?,h],fun o9 o=> ?_,?_,?_,?_,?_,?_,?_,?_,?_⟩
 ·unfold World.frozen?;rw [h2];simp
 all_goals (intro o9;unfold World.cell?;rw [h2];rfl)
def Hh (aA:World) (src:List Nat) (lo:Nat) (t:Tree) (v:Value) (db:World):Prop:=∃ (g:Nat) (r:MRe),v=.pointer (some ⟨g,0,none⟩)∧fb db g 0 r∧r.aK db∧r.ab=t∧I [] aA db∧lo≤g∧du lo src r.aw
theorem UM {aA w4 bS db:World} {src:List Nat} {op:Int} {lo g aG T T':Nat} {cT s2:MRe} {cs:Array Value} {t1 fu:Tree} (rO:I [] aA w4) (s5:I [] w4 bS) (cR:cT.aK w4) (eH:s2.aK bS)
  (l1:∀ ae∈cT.aw,ae∈src) (l2:∀ ae∈s2.aw,ae∈src) (aQ:∀ ae∈src,ae < aA.heap.size) (kH:lo≤aA.heap.size) (aV:cT.ab=t1) (a6:s2.ab=fu)
  (fP:db.heap[aG]? =some (.cells cs T (0,0))) (pt:cs.toList=fX [cT,s2]) (hg:db.heap[g]? =some (.cells #[H J op,M none 0 0,M (some ⟨aG,0,none⟩) 2 2,H J 0,H J 0,H J 0,H J 0,F false] T' (0,0)))
  (hk:I [g] bS db) (sm:aA.heap.size≤g) (aqf:aA.heap.size≤aG):Hh aA src lo (gE op [t1,fu]) (.pointer (some ⟨g,0,none⟩)) db:=by
 subst aV;subst a6;refine ⟨g,.node op none 0 [] (some ⟨aG,0,none⟩) 2 [cT,s2] 0 0 0 0 false,rfl,fb.kq hg rfl,.hR (eK.nil _) ⟨hH.kq fP pt (by simp [maxLen]),?_⟩,rfl,?_,by omega,?_⟩
 ·intro x hx;simp only [List.mem_cons,List.not_mem_nil,or_false] at hx
  rcases hx with rfl | rfl
  ·exact (cR.ah s5).bG hk fun b ad=> by have:=aQ b (l1 b ad);simp;omega
  ·exact eH.bG hk fun b ad=> by have:=aQ b (l2 b ad);simp;omega
 ·exact (rO.trans s5).cn hk (by intro x hx;simp at hx;subst hx;exact .inr sm)
 ·intro b ad;simp only [MRe.aw,MRe.dN,List.mem_append,List.not_mem_nil,or_false] at ad
  rcases ad with ad | ad | ad | ad
  ·simp [df] at ad
  ·simp [df] at ad;subst ad;exact .inr (by omega)
  ·exact .inl (l1 b ad)
  ·exact .inl (l2 b ad)
structure JJ (aA w4 bS:World) (src:List Nat) (lo:Nat) (cT s2:MRe) (t1 fu:Tree):Prop where
 rO:I [] aA w4
 s5:I [] w4 bS
 cR:cT.aK w4
 eH:s2.aK bS
 l1:∀ ae∈cT.aw,ae∈src
 l2:∀ ae∈s2.aw,ae∈src
 aQ:∀ ae∈src,ae < aA.heap.size
 kH:lo≤aA.heap.size
 aV:cT.ab=t1
 a6:s2.ab=fu
theorem acX {aA w4 bS:World} {src:List Nat} {op:Int} {lo T T':Nat} {cT s2:MRe} {t1 fu:Tree} (h:JJ aA w4 bS src lo cT s2 t1 fu) (cs:Array Value) (pt:cs.toList=fX [cT,s2]):
  Hh aA src lo (gE op [t1,fu]) (.pointer (some ⟨bS.heap.size + 1,0,none⟩)) ((bS.alloc (.cells cs T)).alloc (.cells #[H J op,M none 0 0,M (some ⟨bS.heap.size,0,none⟩) 2 2,H J 0,H J 0,H J 0,H J 0,F false] T')):=by
 have lp:=h.rO.size;have yM:=h.s5.size;exact UM h.rO h.s5 h.cR h.eH h.l1 h.l2 h.aQ h.kH h.aV h.a6 ((I.a1 _ _).heap (heap_alloc_new bS _) (by simp)) pt (heap_alloc2_new bS _ _) ((I.a2 bS _ _).mono (by simp)) (by omega) (by omega)
theorem acY {aA w4 bS:World} {src:List Nat} {op:Int} {lo T T':Nat} {cT s2:MRe} {t1 fu:Tree} (h:JJ aA w4 bS src lo cT s2 t1 fu) (cs:Array Value) (pt:cs.toList=fX [cT,s2]):
  Hh aA src lo (gE op [t1,fu]) (.pointer (some ⟨bS.heap.size,0,none⟩)) ((bS.alloc (.cells #[H J op,M none 0 0,M (some ⟨bS.heap.size + 1,0,none⟩) 2 2,H J 0,H J 0,H J 0,H J 0,F false] T')).alloc (.cells cs T)):=by
 have lp:=h.rO.size;have yM:=h.s5.size;exact UM h.rO h.s5 h.cR h.eH h.l1 h.l2 h.aQ h.kH h.aV h.a6 (heap_alloc2_new bS _ _) pt ((I.a1 _ _).heap (heap_alloc_new bS _) (by simp)) ((I.a2 bS _ _).mono (by simp)) (by omega) (by omega)
theorem Pe {aA w4 bS:World} {src:List Nat} {op:Int} {lo T T' g:Nat} {cT s2:MRe} {t1 fu:Tree} (h:JJ aA w4 bS src lo cT s2 t1 fu) (cs:Array Value) (pt:cs.toList=fX [cT,s2])
  (aW:bS.heap[g]? =some (.cells #[H J 0,M none 0 0,M none 0 0,H J 0,H J 0,H J 0,H J 0,F false] T' (0,0))) (hg:aA.heap.size≤g):
  Hh aA src lo (gE op [t1,fu]) (.pointer (some ⟨g,0,none⟩)) (hE (bS.alloc (.cells cs T)) g (H J op) (M none 0 0) (M (some ⟨bS.heap.size,0,none⟩) 2 2) (H J 0) (H J 0) (H J 0) (H J 0) (F false)):=by
 have lp:=h.rO.size;have yM:=h.s5.size;have aQ:=lt_of_block aW;exact UM h.rO h.s5 h.cR h.eH h.l1 h.l2 h.aQ h.kH h.aV h.a6 ((jv _ _ _ _ _ _ _ _ _ _).heap (heap_alloc_new bS _) (by simp;omega)) pt (rm ((I.a1 bS _).h aW) _ _ _ _ _ _ _ _) (((I.a1 bS _).mono (by simp)).trans (jv _ _ _ _ _ _ _ _ _ _)) (by omega) (by omega)
theorem acp {W:World} {op:Int} {T T':Nat} {cT s2:MRe} (h1:cT.aK W) (h2:s2.aK W) (cs:Array Value) (pt:cs.toList=fX [cT,s2]):
  gT ((W.alloc (.cells cs T)).alloc (.cells #[H J op,M none 0 0,M (some ⟨W.heap.size,0,none⟩) 2 2,H J 0,H J 0,H J 0,H J 0,F false] T')).drew (some ⟨W.heap.size + 1,0,none⟩) 1 [.node op none 0 [] (some ⟨W.heap.size,0,none⟩) 2 [cT,s2] 0 0 0 0 false]:=by
 have kk:I [] W ((W.alloc (.cells cs T)).alloc (.cells #[H J op,M none 0 0,M (some ⟨W.heap.size,0,none⟩) 2 2,H J 0,H J 0,H J 0,H J 0,F false] T')).drew:=(I.a2 W _ _).drew;refine ⟨hH.kq (kids:=[.node op none 0 [] (some ⟨W.heap.size,0,none⟩) 2 [cT,s2] 0 0 0 0 false]) (w:=((W.alloc (.cells cs T)).alloc (.cells #[H J op,M none 0 0,M (some ⟨W.heap.size,0,none⟩) 2 2,H J 0,H J 0,H J 0,H J 0,F false] T')).drew) (heap_alloc2_new W _ _) rfl (by simp [maxLen]),fun k hk=> ?_⟩;simp only [List.mem_cons,List.not_mem_nil,or_false] at hk;subst hk;refine .hR (eK.nil _) ⟨hH.kq (w:=((W.alloc (.cells cs T)).alloc (.cells #[H J op,M none 0 0,M (some ⟨W.heap.size,0,none⟩) 2 2,H J 0,H J 0,H J 0,H J 0,F false] T')).drew) ((I.a1 _ _).heap (heap_alloc_new W _) (by simp)) pt (by simp [maxLen]),fun x hx=> ?_⟩;simp only [List.mem_cons,List.not_mem_nil,or_false] at hx
 rcases hx with rfl | rfl
 ·exact h1.ah kk
 ·exact h2.ah kk
theorem ano (w:World) (m:MRe) (T:Nat):∃ aE:World,aE=(w.alloc (.cells m.row.toArray T)).alloc (.cells #[H J 0,M none 0 0,M none 0 0,H J 0,H J 0,H J 0,H J 0,F false] T)∧fb aE w.heap.size 0 m∧aE.heap[w.heap.size + 1]? =some (.cells #[H J 0,M none 0 0,M none 0 0,H J 0,H J 0,H J 0,H J 0,F false] T (0,0))∧w.heap.size + 2≤aE.heap.size∧I [] w aE:=
 ⟨_,rfl,(Hq w m T).1,(Hq w m T).2.1,(Hq w m T).2.2,I.a2 _ _ _⟩
theorem rS (w:World) (op:Int) (sa:Option Addr) (sc:Nat) (set:List (Int × Int)) (ka:Option Addr) (kc:Nat) (kids:List MRe) (mn mx mode n:Int) (neg:Bool):∃ (U:Nat) (aE:World),sF (U=w.heap.size)∧sF (aE=(w.alloc (bf op sa set sc ka kids kc mn mx mode n neg)).alloc cO)∧sF (fb aE U 0 (.node op sa sc set ka kc kids mn mx mode n neg))∧sF (aE.heap[U + 1]? =some cO)∧U + 2≤aE.heap.size∧sF (I [] w aE):=by
 obtain ⟨aE,cz,iy,aW,cZ,cq⟩:=ano w (.node op sa sc set ka kc kids mn mx mode n neg) 26;exact ⟨_,aE,⟨rfl⟩,⟨cz⟩,⟨iy⟩,⟨aW⟩,cZ,⟨cq⟩⟩
def dc (w:World) (src:List Nat) (o:Option Tree) (e:Ending) (w':World):Prop:=
 match o with
 | none=> e=.returned (.tuple #[.agg #[H J 0,M none 0 0,M none 0 0,H J 0,H J 0,H J 0,H J 0,F false],F false])∧I [] w w'
 | some t=> ∃ r:MRe,e=.returned (.tuple #[r.val,F true])∧r.ab=t∧r.aK w'∧I [] w w'∧du w.heap.size src r.aw
theorem dc.dL {w:World} {src:List Nat} {o:Option Tree} {e:Ending} {w':World} (h:o=none) (he:e=.returned (.tuple #[.agg #[H J 0,M none 0 0,M none 0 0,H J 0,H J 0,H J 0,H J 0,F false],F false])) (hk:I [] w w'):dc w src o e w':=by subst h;exact ⟨he,hk⟩
theorem dc.iI {w:World} {src:List Nat} {o:Option Tree} {e:Ending} {w':World} (r:MRe) (h:o=some r.ab) (he:e=.returned (.tuple #[r.val,F true])) (aO:r.aK w') (hk:I [] w w') (ad:du w.heap.size src r.aw):dc w src o e w':=by subst h;exact ⟨r,he,rfl,aO,hk,ad⟩
def uU (t:Tree):Option Tree:=(qa w5 3 t).map fun i=> hF t.op t.kids i (i + 2)
 [gE 2 [(t.kids.getD i .nil).kids.getD 0 .nil,gE 3 [im 2 ((t.kids.getD i .nil).kids.drop 1),im 2 ((t.kids.getD (i + 1) .nil).kids.drop 1)]]]
theorem y8 {p:Tree→Tree→Bool} {o:Int} {t:Tree} {i:Nat} (h:qa p o t=some i):t.op=o∧i + 1 < t.kids.length∧p (t.kids.getD i .nil) (t.kids.getD (i + 1) .nil)=true:=by
 unfold qa at h
 split at h
 ·exact ⟨by assumption,Ur h,acg h⟩
 ·cases h
end Go.Proofs.YtjnlkjlbejelgaaGreat
