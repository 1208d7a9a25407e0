/- Part of the proof. No condition: every lemma says its own. -/
import Derived.Deep.CutBlock
import Derived.Test.YtjnlkjlbejelgaaGreatRSPaq
namespace Go.Proofs.YtjnlkjlbejelgaaGreat
open Go.RowKit
open Go.Value renaming int→H,slice→M,bool→F
open Go.IntKind renaming i64→J
set_option maxRecDepth 100000
set_option maxHeartbeats 16000000
theorem Rv (m p:MRe) (path:List Int) (bP:Option Addr) (pc:Nat) (w:World) (aj:m.aK w) (cV:p.aK w) (hin:hr w bP path) (hl:path.length≤1000000) (ad:m.ab.bm≤1000000) (KO:p.ab.bm≤1000000):
  Calls Tryz.prog 30 #[m.val,M bP path.length pc,p.val] w (pL w [] 7 (lI m.ab path p.ab)):=by
 obtain ⟨U,cd⟩:∃ U,U=w.heap.size:=⟨_,rfl⟩;obtain ⟨aE,cz⟩:∃ aE,aE=((w.alloc (.cells m.row.toArray 26)).alloc (.cells p.row.toArray 26)).alloc cO:=⟨_,rfl⟩;have cq:I [] w aE:=by rw [cz];exact I.a3 _ _ _ _
 have gg:aE.heap[U]? =some (.cells m.row.toArray 26 (0,0)):=by rw [cz,cd];exact (I.a2 _ _ _).heap (heap_alloc_new w _) (by simp)
 have iR:aE.heap[U + 1]? =some (.cells p.row.toArray 26 (0,0)):=by rw [cz,cd];exact (I.a1 _ _).heap (heap_alloc2_new w _ _) (by simp)
 have aW:aE.heap[U + 2]? =some cO:=by rw [cz,cd];have h:=heap_alloc_new ((w.alloc (.cells m.row.toArray 26)).alloc (.cells p.row.toArray 26)) cO;simpa using h
 have gj:=RW m U 0 path bP pc aE (fb.kq gg rfl) (aj.ah cq) (hin.bG cq (fun _ _=> by simp)) hl;obtain ⟨R,aY⟩:∃ R,R=oG m U 0 path:=⟨_,rfl⟩;rw [←aY] at gj;have aD:=C aY;have gj:=C gj;have aB:=C cd;have aH:=C cq;have ba:=C aW;have HM:=C aj;have eg:=C cV;have k1:=C hin;have mD:=C (fun (W:World) (h:I [] w W)=> Rp m W (aj.ah h) ad);have tJ:=C (fun (W:World) (h:I [] w W)=> Rp p W (cV.ah h) KO);obtain ⟨bW,cQ⟩:∃ bW,bW=m:=⟨_,rfl⟩;obtain ⟨fQ,xU⟩:∃ fQ,fQ=p:=⟨_,rfl⟩;obtain ⟨Rb,NK⟩:∃ Rb,Rb=m.ab:=⟨_,rfl⟩;obtain ⟨Na,NL⟩:∃ Na,Na=p.ab:=⟨_,rfl⟩;rw [←NK] at mD ⊢;rw [←NL] at tJ ⊢;rw [←cQ] at aD HM NK;rw [←xU] at eg NL;have Wa:=C NK;have apk:=C NL;obtain ⟨op1,aM,aN,set1,aS,kc1,aq,mn1,aI,mode1,n1,aL⟩:=m;obtain ⟨op2,cg,cf,bj,ct,kc2,a8,mn2,bY,bX,bn,bZ⟩:=p;simp only [MRe.row] at cz gg iR;simp only [MRe.val] at mD tJ;have c7:=C cz;obtain ⟨ar,c1,c2,an,av,ay,ax,az⟩:=eR (v0:=H J op1) (v1:=M aM set1.length aN) (v2:=M aS aq.length kc1) (v3:=H J mn1) (v4:=H J aI) (v5:=H J mode1) (v6:=H J n1) (v7:=F aL) gg;obtain ⟨bK,d1,d2,bL,bO,bT,bU,bV⟩:=eR (v0:=H J op2) (v1:=M cg bj.length cf) (v2:=M ct a8.length kc2) (v3:=H J mn2) (v4:=H J bY) (v5:=H J bX) (v6:=H J bn) (v7:=F bZ) iR;simp only [MRe.val];clear cd cz cq gg iR aW aY aj cV hin ad KO cQ xU NK NL;go_enter Tryz.func30,Tryz.ntmps30
 go_upto_region 1 with fail
 rw [←c7.o,←aB.o];go_wp2_with fail
 refine Calls.mono gj.o ?_;rintro e w2 ⟨rfl,hk2,FB⟩;have aU:=C hk2;have dx:=hk2.au ar c1 c2 an av ay ax az;clear ar c1 c2 an av ay ax az;obtain ⟨ar,c1,c2,an,av,ay,ax,az⟩:=dx;have dx:=hk2.au bK d1 d2 bL bO bT bU bV;clear bK d1 d2 bL bO bT bU bV;obtain ⟨bK,d1,d2,bL,bO,bT,bU,bV⟩:=dx;clear hk2 FB
 cases R with
 | none=>
  have ga:=C (show lI Rb path Na=none by rw [Wa.o];exact alW HM.o aD.o.symm Na);simp only [Ix,Option.map_none];obtain ⟨z0,z1,z2,z3,z4,z5,b9,cc,cj⟩:=ew (aU.o.h ba.o);have cw:=C (rm (aU.o.h ba.o) (H J 0) (M none 0 0) (M none 0 0) (H J 0) (H J 0) (H J 0) (H J 0) (F false));have bQ:=C ((aH.o.trans aU.o).cn (jv _ (U + 2) (H J 0) (M none 0 0) (M none 0 0) (H J 0) (H J 0) (H J 0) (H J 0) (F false)) (by intro x hx;simp at hx;subst hx;exact .inr (by rw [aB.o];omega)));go_wp2;refine rt cw.o ?_;exact pL.dL ga.o rfl bQ.o
 | some x=>
  simp only [Ix,Option.map_some];go_wp2_with fail
  refine Calls.mono (mD.o _ (aH.o.trans aU.o)) ?_;rintro e bS ⟨ae,rfl,a7,aT,hk5,xV,hqf⟩;obtain ⟨q0,bN⟩:∃ q0,q0=ae:=⟨_,rfl⟩;rw [←bN] at a7 aT xV hqf;have dt:=C bN;have dK:=C a7;have dA:=C aT;have wI:=C xV;have et:=C hqf;have dr:=C (aU.o.trans hk5);have agd:=C hk5.size;have dx:=hk5.au bK d1 d2 bL bO bT bU bV;clear bK d1 d2 bL bO bT bU bV;obtain ⟨bK,d1,d2,bL,bO,bT,bU,bV⟩:=dx;obtain ⟨bA,bB,bC,bD,bs,bt,bu,bo,bx,bw,bp,bz⟩:=ae;simp only [MRe.val];clear a7 aT hk5 xV hqf bN ar c1 c2 an av ay ax az;go_upto_region 4 with fail
  obtain ⟨ak,cY⟩:∃ ak,ak=bS.alloc (bf bA bB bD bC bs bu bt bo bx bw bp bz):=⟨_,rfl⟩;obtain ⟨pk,tU⟩:∃ pk,pk=bS.heap.size:=⟨_,rfl⟩;have dh:I [] bS ak:=by rw [cY];exact I.a1 _ _
  have ix:ak.heap[pk]? =some (.cells q0.row.toArray 26 (0,0)):=by rw [cY,tU,dt.o];exact heap_alloc_new bS _
  rw [←cY,←tU];have oo:=C (show U + 3≤w2.heap.size∧w2.heap.size≤pk from ⟨by have:=lt_of_block (aU.o.h ba.o);omega,by rw [tU];have:=wI.o.2;have:=dr.o.size;have h:=aU.o.size;exact (show w2.heap.size≤bS.heap.size from agd.o)⟩);have dG:=C (dr.o.trans dh);have wx:=C ix;have wF:=C (dA.o.ah dh);have MJ:=C (show ∀ b∈q0.aw,w2.heap.size≤b∧b < pk from fun b ad=> ⟨(wI.o.2 b ad).1,by rw [tU];exact (wI.o.2 b ad).2⟩);have iY:=C (et.o.bG dh (fun b ad=> (wI.o.2 b (MRe.xZ q0 b ad)).2) (by simp));have dx:=dh.au bK d1 d2 bL bO bT bU bV;clear bK d1 d2 bL bO bT bU bV;obtain ⟨bK,d1,d2,bL,bO,bT,bU,bV⟩:=dx;have hat:∃ y,oG q0 pk 0 path=some y:=by
   have h1:=Ut path (m:=q0) (b:=pk) (o:=0) dA.o;have h2:=Ut path (m:=bW) (b:=U) (o:=0) HM.o;rw [←aD.o,←Wa.o] at h2;rw [dK.o,←h2] at h1
   cases hq:oG q0 pk 0 path with
   | none=> rw [hq] at h1;cases h1
   | some y=> exact ⟨y,rfl⟩
  obtain ⟨⟨mk,bb,mR⟩,Ob⟩:=hat;have dP:=C Ob;have sA:=C (fun (W:World) (h:I [] ak W)=> RW q0 pk 0 path bP pc W ((fb.kq ix rfl).ah h) (wF.o.ah h) (k1.o.bG ((aH.o.trans dG.o).trans h) (fun _ _=> by simp)) hl);rw [Ob] at sA;simp only [Ix,Option.map_some] at sA;have nz:=C (show bb=pk∨bb∈q0.l9 from by
   rcases Uu path dA.o Ob with ⟨_,he⟩ | h
   ·simp only [Prod.mk.injEq] at he;exact .inl he.2.1
   ·exact .inr h)
  have nh:=C (show w2.heap.size≤bb∧bb≤pk by
   rcases nz.o with h | h
   ·rw [h];exact ⟨oo.o.2,Nat.le_refl _⟩
   ·have:=MJ.o bb (MRe.xZ q0 bb h);omega)
  have eA:=C ((I.refl [] ak).drew);clear cY tU dh ix Ob;refine rg (S:=fun w'=> iK w' (U + 1) op2 cg bj cf ct a8 kc2 mn2 bY bX bn bZ) (fun _ k=> (k.au bK d1 d2 bL bO bT bU bV)) fun bM aF=> ?_;refine ag 0 ?_;refine ag 2 ?_;refine bh 1 fun ai af=> ?_;go_simp;refine Calls.mono (sA.o _ eA.o) ?_;rintro gz hG ⟨rfl,hV,FB⟩;have kv:=C (eA.o.trans hV);have aeO:=C (show PE hG mk bb mR from FB);clear hV FB;refine af.out _ _ (bM.o _ kv.o) fun aF=> ?_;clear af ai;try go_frame
  refine bh 3 fun ai af=> ?_;go_simp;refine Calls.mono (tJ.o _ ((aH.o.trans dG.o).trans kv.o)) ?_;rintro gz gW ⟨t,rfl,yR,aaV,gX,yQ,akK⟩;have eV:=C (kv.o.trans gX);have WW:=C yR;have WV:=C aaV;have Nb:=C yQ;have Vl:=C (aeO.o.Xg.ah gX);obtain ⟨t0,On⟩:∃ t0,t0=t:=⟨_,rfl⟩;rw [←On] at WW WV Nb;have Q9:=C On;obtain ⟨jS,jT,jU,jV,jL,jM,jN,jO,jQ,jP,jg,jR⟩:=t;simp only [MRe.val];clear yR aaV gX yQ akK On;refine af.out _ _ (bM.o _ eV.o) fun aF=> ?_;clear af ai;try go_frame
  refine ag 4 ?_;have SW:∀ o,gW.frozen? ⟨bb,o,none⟩=false:=by
   rcases nz.o with h | h
   ·rw [h];exact h6 (eV.o.h wx.o)
   ·exact (iY.o.bG eV.o (fun b ad=> by have:=(MJ.o b (MRe.xZ q0 b ad)).2;have:=lt_of_block wx.o;omega) (by simp)) bb h
  obtain ⟨Un,Z2⟩:∃ Un,Un=mk:=⟨_,rfl⟩;have Qk:=C Z2;have KF:=Vl.o;obtain ⟨op3,dk,dm,set3,di,dj,kids3,cA,cC,cB,cv,cx⟩:=mk;have g:=KF.node;obtain ⟨bg,aV,a6,bl,bq,bE,bF,bH⟩:=id g;refine bh 5 fun ai af=> ?_;go_simp;have ln:=adn gW bb mR (H J jS) (M jT jV.length jU) (M jL jN.length jM) (H J jO) (H J jQ) (H J jP) (H J jg) (F jR);have bk:=C ln;have B3:=C ln;have yF:¬ U + 1=bb:=by have:=nh.o.1;have:=oo.o.1;omega
  have l5:gW.heap.size≤(xj gW bb mR (H J jS) (M jT jV.length jU) (M jL jN.length jM) (H J jO) (H J jQ) (H J jP) (H J jg) (F jR)).heap.size:=ln.size;have ajG:bb < gW.heap.size:=by have:=nh.o.2;have:=lt_of_block wx.o;have:=eV.o.size;omega
  have TN:∀ b∈t0.aw,ak.heap.size≤b:=fun b ad=> Nat.le_trans kv.o.size (Nb.o.2 b ad).1;have aau:t0.aK (xj gW bb mR (H J jS) (M jT jV.length jU) (M jL jN.length jM) (H J jO) (H J jQ) (H J jP) (H J jg) (F jR)):=WV.o.bG ln fun b ad=> by have:=TN b ad;have:=nh.o.2;have:=lt_of_block wx.o;simp;omega
  have Oe:fb (xj gW bb mR (H J jS) (M jT jV.length jU) (M jL jN.length jM) (H J jO) (H J jQ) (H J jP) (H J jg) (F jR)) bb mR t0:=by rw [Q9.o];exact anO Vl.o
  have HZ:=amw (mk:=Un) aau Oe path (wF.o.ah eV.o) ((fb.kq wx.o rfl).ah eV.o) (fun hm=> by have:=(MJ.o pk hm).2;omega) wI.o.1 (by rw [Qk.o];exact dP.o);have Oq:=amx path (p:=t0) (wF.o.ah eV.o) dP.o;rw [dK.o,WW.o] at Oq;have Bu:∀ b∈(x6 q0 path t0).aw,U + 3≤b:=fun b ad=> by
   rcases amv path b ad with h | h
   ·have:=(MJ.o b h).1;have:=oo.o.1;omega
   ·have:=TN b h;have:=lt_of_block wx.o;have:=oo.o;omega
  have A5:=C Bu;obtain ⟨IG,Ig⟩:∃ IG,IG=x6 q0 path t0:=⟨_,rfl⟩;rw [←Ig] at HZ Oq A5;have nm:=C HZ;have tQ:=C Oq;obtain ⟨Rj,SF⟩:∃ Rj,Rj=xj gW bb mR (H J jS) (M jT jV.length jU) (M jL jN.length jM) (H J jO) (H J jQ) (H J jP) (H J jg) (F jR):=⟨_,rfl⟩;rw [←SF] at nm bk;have WE:=C (show I [] aE Rj from (dG.o.trans eV.o).cn bk.o (by intro y hy;simp at hy;subst hy;exact .inr (by have h1:=nh.o.1;have h2:=aU.o.size;omega)));have Df:=C SF;clear g ln l5 ajG TN aau Oe HZ Oq Bu Ig SF KF SW Z2;refine af.out _ _ (⟨B3.o.cell (eV.o.c bK) (by simp;exact yF),B3.o.cell (eV.o.c d1) (by simp;exact yF),B3.o.cell (eV.o.c d2) (by simp;exact yF),B3.o.cell (eV.o.c bL) (by simp;exact yF),B3.o.cell (eV.o.c bO) (by simp;exact yF),B3.o.cell (eV.o.c bT) (by simp;exact yF),B3.o.cell (eV.o.c bU) (by simp;exact yF),B3.o.cell (eV.o.c bV) (by simp;exact yF)⟩) (fun aF=> ?_);clear af ai;try go_frame
  refine dR ?_;clear aF bg aV a6 bl bq bE bF bH bK d1 d2 bL bO bT bU bV;have lh:=Df.o;unfold xj at lh;rw [←lh];clear lh B3;have Ye:=nm.o.2;obtain ⟨z0,dQ⟩:∃ z0,z0=IG:=⟨_,rfl⟩;have JS:=C dQ;rw [←dQ] at nm tQ A5;obtain ⟨e7,e8,e9,fa,e0,e1,e2,e3,e5,e4,eQ,e6⟩:=IG;have g:=Ye.node;obtain ⟨u0,u1,u2,u3,u4,u5,u6,u7⟩:=id g;clear g Ye dQ;obtain ⟨c6,y1,dp,eb,ef,ej,ek,el,oh⟩:=ew (WE.o.h ba.o);obtain ⟨eo,ey,fS,fT⟩:=Ga (IC (by rw [aB.o];omega:w.heap.size≤U + 2) aH.o WE.o ba.o (by rw [←JS.o];exact nm.o.1) (show du (U + 2 + 1) [] (MRe.aw (.node e7 e8 e9 fa e0 e1 e2 e3 e5 e4 eQ e6)) by rw [←JS.o];exact fun b ad=> .inr (A5.o b ad)) (fun b ad=> by cases ad));go_wp2;refine rt eo.o ?_;exact pL.iI (.node e7 e8 e9 fa e0 e1 e2 e3 e5 e4 eQ e6) (by rw [tQ.o,JS.o]) rfl ey.o fS.o fT.o
theorem ahL (m:MRe) (b o:Nat) (caps top:Int) (w:World) (ix:fb w b o m) (aj:m.aK w) (ht:top≤2000000):
  Calls Tryz.prog 101 #[.pointer (some ⟨b,o,none⟩),H J caps,H J top] w fun e w'=> e=.returned (F (Gl caps top m.ab))∧I [] w w':=by
 obtain ⟨R,aC⟩:∃ R,R=Gl caps top m.ab:=⟨_,rfl⟩;rw [←aC];obtain ⟨op,sa,sc,set,ka,kc,kids,mn,mx,mode,n,neg⟩:=m;replace aC:R=lO op set.length (MRe.al kids).length mn mx mode n neg caps (tE set top):=aC;rw [MRe.ee] at aC;have fp:=C (fun (W:World) (h:I [] w W)=> ahU sa sc set top W (aj.nV.ah h) ht);obtain ⟨ib,dF⟩:∃ ib,ib=tE set top:=⟨_,rfl⟩;rw [←dF] at fp aC;have g:=ix.node;obtain ⟨ar,c1,c2,an,av,ay,ax,az⟩:=id g;have mV:=C (fun (W:World) (h:I [] w W)=> aia b o mn mx mode W (h.c an) (h.c av) (h.c ay));obtain ⟨bd,lC⟩:∃ bd,bd=nI mn mx mode:=⟨_,rfl⟩;rw [←lC] at mV;have aeB:=C lC;have fc:=aj.ch.le;have hcap:=aj.ch.cap;unfold maxLen at hcap;obtain ⟨nk,DW⟩:∃ nk,nk=kids.length:=⟨_,rfl⟩;obtain ⟨ns,hns⟩:∃ ns,ns=set.length:=⟨_,rfl⟩;rw [←DW] at c2 aC fc;rw [←hns] at c1 aC;simp only [←hns] at fp;have aD:=C aC;clear aC dF g ix aj DW hns lC;obtain ⟨nb,hnb⟩:∃ nb,nb=(decide (1≤n) && decide (n≤caps)):=⟨_,rfl⟩;have mW:=C hnb;clear hnb;go_enter Tryz.func101,Tryz.ntmps101
 go_upto_region 2 with fail
 go_cut [8] from 16 to 28 (fun Mc db=> Mc=F nb∧w=db)
 case first=>
  by_cases h1:1≤n
  ·by_cases h2:n≤caps
   ·go_wp2;go_meet;exact ⟨by rw [mW.o,decide_eq_true h1,decide_eq_true h2];rfl,rfl⟩
   ·go_wp2;go_meet;exact ⟨by rw [mW.o,decide_eq_true h1,decide_eq_false (show ¬ n≤caps by omega)];rfl,rfl⟩
  ·go_wp2;go_meet;exact ⟨by rw [mW.o,decide_eq_false (show ¬ 1≤n by omega)];rfl,rfl⟩
 obtain ⟨rfl,rfl⟩:=hcut;go_upto_region 5 with fail
 obtain ⟨W,kG⟩:∃ W,W=w.alloc (.cells #[H J op,M sa ns sc,M none 0 0,H J mn,H J mx,H J mode,H J n,F neg] 26):=⟨_,rfl⟩;obtain ⟨aG,i0⟩:∃ aG,aG=w.heap.size:=⟨_,rfl⟩;have xP:I [] w W:=by rw [kG];exact I.a1 _ _
 have fP:W.heap[aG]? =some (.cells #[H J op,M sa ns sc,M none 0 0,H J mn,H J mx,H J mode,H J n,F neg] 26 (0,0)):=by rw [kG,i0];exact heap_alloc_new w _
 rw [←kG,←i0];have c4:=C xP;have fe:=C fP;have qk:=C i0;have ar:=xP.c ar;have ax:=xP.c ax;have c1:=xP.c c1;have c2:=xP.c c2;clear kG i0 xP fP
 go_upto_block 0 with fail
 go_cut [10] from 36 to 122 (fun iS db=> ∃ (gb:Bool) (adM:Option Addr) (nx mG:Nat) (mnx Ip LZ L1:Int) (OW:Bool) (ak:World),iS=F gb∧ak=db∧I [] w ak∧ak.heap[aG]? =some (.cells #[H J op,M adM nx mG,M none 0 0,H J mnx,H J Ip,H J LZ,H J L1,F OW] 26 (0,0))∧R=(gb && nu nx mnx Ip LZ L1 OW))
 case first=>
  obtain ⟨g0,g1,g2,g3,kx,k4,dz,kE⟩:=eR fe.o;have Ci:=h6 fe.o
  by_cases mL:0≤op∧op≤11
  ·obtain rfl | rfl | rfl | rfl | rfl | rfl | rfl | rfl | rfl | rfl | rfl | rfl:op=0∨op=1∨op=2∨op=3∨op=4∨op=5∨op=6∨op=7∨op=8∨op=9∨op=10∨op=11:=by omega
   ·by_cases h1:nk=0
    ·subst h1;go_wp2;go_meet;exact ⟨true,sa,ns,sc,mn,mx,mode,n,neg,_,rfl,rfl,c4.o,fe.o,by rw [aD.o,XM];(first | done | rfl)⟩
    ·have q1:((nk:Int)==0)=false:=by simp;omega
     have q2:(nk==0)=false:=by simp;omega
     go_wp2;go_meet;exact ⟨false,sa,ns,sc,mn,mx,mode,n,neg,_,rfl,rfl,c4.o,fe.o,by rw [aD.o,XM,decide_eq_false (by omega)];(first | done | rfl)⟩
   ·by_cases h1:nk=0
    ·subst h1;go_wp2_with fail
     refine Calls.mono (fp.o _ c4.o) ?_;rintro e w4 ⟨rfl,bc⟩;have cl:=C (c4.o.trans bc);have AS:=C (bc.h fe.o);clear bc g0 g1 g2 g3 kx k4 dz kE Ci ar c1 c2 ax;obtain ⟨g0,g1,g2,g3,kx,k4,dz,kE⟩:=eR AS.o;have Ci:=h6 AS.o;go_wp2;go_meet;exact ⟨ib,none,0,0,mn,mx,mode,n,neg,_,rfl,rfl,(cl.o.cn ((I.refl [aG] w4).setCell (p:=⟨aG,1,none⟩) (.inl (by simp)) (M none 0 0)) (by intro x hx;simp at hx;subst hx;exact .inr (by rw [qk.o];exact Nat.le_refl _))),(heap_setCell_same w4 aG 1 _ _ (M none 0 0) AS.o),by rw [aD.o,XN];(first | done | rfl)⟩
    ·have q1:((nk:Int)==0)=false:=by simp;omega
     have q2:(nk==0)=false:=by simp;omega
     go_wp2;go_meet;exact ⟨false,none,0,0,mn,mx,mode,n,neg,_,rfl,rfl,(c4.o.cn ((I.refl [aG] W).setCell (p:=⟨aG,1,none⟩) (.inl (by simp)) (M none 0 0)) (by intro x hx;simp at hx;subst hx;exact .inr (by rw [qk.o];exact Nat.le_refl _))),(heap_setCell_same W aG 1 _ _ (M none 0 0) fe.o),by rw [aD.o,XN,decide_eq_false (by omega)];(first | done | rfl)⟩
   ·by_cases h1:2≤nk
    ·have q1:(2:Int)≤(nk:Int):=by omega
     go_wp2;go_meet;exact ⟨true,sa,ns,sc,mn,mx,mode,n,neg,_,rfl,rfl,c4.o,fe.o,by rw [aD.o,XP,decide_eq_true (by omega)];(first | done | rfl)⟩
    ·have q1:¬ (2:Int)≤(nk:Int):=by omega
     go_wp2;go_meet;exact ⟨false,sa,ns,sc,mn,mx,mode,n,neg,_,rfl,rfl,c4.o,fe.o,by rw [aD.o,XP,decide_eq_false (by omega)];(first | done | rfl)⟩
   ·by_cases h1:2≤nk
    ·have q1:(2:Int)≤(nk:Int):=by omega
     go_wp2;go_meet;exact ⟨true,sa,ns,sc,mn,mx,mode,n,neg,_,rfl,rfl,c4.o,fe.o,by rw [aD.o,XQ,decide_eq_true (by omega)];(first | done | rfl)⟩
    ·have q1:¬ (2:Int)≤(nk:Int):=by omega
     go_wp2;go_meet;exact ⟨false,sa,ns,sc,mn,mx,mode,n,neg,_,rfl,rfl,c4.o,fe.o,by rw [aD.o,XQ,decide_eq_false (by omega)];(first | done | rfl)⟩
   ·by_cases h1:nk=1
    ·subst h1;go_wp2_with fail
     refine Calls.mono (mV.o _ c4.o) ?_;rintro e w4 ⟨rfl,bc⟩;have cl:=C (c4.o.trans bc);have AS:=C (bc.h fe.o);clear bc g0 g1 g2 g3 kx k4 dz kE Ci ar c1 c2 ax;obtain ⟨g0,g1,g2,g3,kx,k4,dz,kE⟩:=eR AS.o;have Ci:=h6 AS.o;go_wp2;go_meet;exact ⟨(!bd),sa,ns,sc,0,0,0,n,neg,_,rfl,rfl,(((cl.o.cn ((I.refl [aG] w4).setCell (p:=⟨aG,3,none⟩) (.inl (by simp)) (H J 0)) (by intro x hx;simp at hx;subst hx;exact .inr (by rw [qk.o];exact Nat.le_refl _))).cn ((I.refl [aG] (w4.setCell ⟨aG,3,none⟩ (H J 0))).setCell (p:=⟨aG,4,none⟩) (.inl (by simp)) (H J 0)) (by intro x hx;simp at hx;subst hx;exact .inr (by rw [qk.o];exact Nat.le_refl _))).cn ((I.refl [aG] ((w4.setCell ⟨aG,3,none⟩ (H J 0)).setCell ⟨aG,4,none⟩ (H J 0))).setCell (p:=⟨aG,5,none⟩) (.inl (by simp)) (H J 0)) (by intro x hx;simp at hx;subst hx;exact .inr (by rw [qk.o];exact Nat.le_refl _))),(heap_setCell_same ((w4.setCell ⟨aG,3,none⟩ (H J 0)).setCell ⟨aG,4,none⟩ (H J 0)) aG 5 _ _ (H J 0) (heap_setCell_same (w4.setCell ⟨aG,3,none⟩ (H J 0)) aG 4 _ _ (H J 0) (heap_setCell_same w4 aG 3 _ _ (H J 0) AS.o))),by rw [aD.o,XR,←aeB.o];(first | done | rfl)⟩
    ·have q1:((nk:Int)==1)=false:=by simp;omega
     have q2:(nk==1)=false:=by simp;omega
     go_wp2;go_meet;exact ⟨false,sa,ns,sc,0,0,0,n,neg,_,rfl,rfl,(((c4.o.cn ((I.refl [aG] W).setCell (p:=⟨aG,3,none⟩) (.inl (by simp)) (H J 0)) (by intro x hx;simp at hx;subst hx;exact .inr (by rw [qk.o];exact Nat.le_refl _))).cn ((I.refl [aG] (W.setCell ⟨aG,3,none⟩ (H J 0))).setCell (p:=⟨aG,4,none⟩) (.inl (by simp)) (H J 0)) (by intro x hx;simp at hx;subst hx;exact .inr (by rw [qk.o];exact Nat.le_refl _))).cn ((I.refl [aG] ((W.setCell ⟨aG,3,none⟩ (H J 0)).setCell ⟨aG,4,none⟩ (H J 0))).setCell (p:=⟨aG,5,none⟩) (.inl (by simp)) (H J 0)) (by intro x hx;simp at hx;subst hx;exact .inr (by rw [qk.o];exact Nat.le_refl _))),(heap_setCell_same ((W.setCell ⟨aG,3,none⟩ (H J 0)).setCell ⟨aG,4,none⟩ (H J 0)) aG 5 _ _ (H J 0) (heap_setCell_same (W.setCell ⟨aG,3,none⟩ (H J 0)) aG 4 _ _ (H J 0) (heap_setCell_same W aG 3 _ _ (H J 0) fe.o))),by rw [aD.o,XR,decide_eq_false (by omega)];(first | done | rfl)⟩
   ·by_cases h1:nk=1
    ·subst h1;go_wp2;go_meet;exact ⟨nb,sa,ns,sc,mn,mx,mode,0,neg,_,rfl,rfl,(c4.o.cn ((I.refl [aG] W).setCell (p:=⟨aG,6,none⟩) (.inl (by simp)) (H J 0)) (by intro x hx;simp at hx;subst hx;exact .inr (by rw [qk.o];exact Nat.le_refl _))),(heap_setCell_same W aG 6 _ _ (H J 0) fe.o),by rw [aD.o,XS,←mW.o];(first | done | rfl)⟩
    ·have q1:((nk:Int)==1)=false:=by simp;omega
     have q2:(nk==1)=false:=by simp;omega
     go_wp2;go_meet;exact ⟨false,sa,ns,sc,mn,mx,mode,0,neg,_,rfl,rfl,(c4.o.cn ((I.refl [aG] W).setCell (p:=⟨aG,6,none⟩) (.inl (by simp)) (H J 0)) (by intro x hx;simp at hx;subst hx;exact .inr (by rw [qk.o];exact Nat.le_refl _))),(heap_setCell_same W aG 6 _ _ (H J 0) fe.o),by rw [aD.o,XS,decide_eq_false (by omega)];(first | done | rfl)⟩
   ·by_cases h1:nk=0
    ·subst h1;go_wp2;go_meet;exact ⟨nb,sa,ns,sc,mn,mx,mode,0,neg,_,rfl,rfl,(c4.o.cn ((I.refl [aG] W).setCell (p:=⟨aG,6,none⟩) (.inl (by simp)) (H J 0)) (by intro x hx;simp at hx;subst hx;exact .inr (by rw [qk.o];exact Nat.le_refl _))),(heap_setCell_same W aG 6 _ _ (H J 0) fe.o),by rw [aD.o,XT,←mW.o];(first | done | rfl)⟩
    ·have q1:((nk:Int)==0)=false:=by simp;omega
     have q2:(nk==0)=false:=by simp;omega
     go_wp2;go_meet;exact ⟨false,sa,ns,sc,mn,mx,mode,0,neg,_,rfl,rfl,(c4.o.cn ((I.refl [aG] W).setCell (p:=⟨aG,6,none⟩) (.inl (by simp)) (H J 0)) (by intro x hx;simp at hx;subst hx;exact .inr (by rw [qk.o];exact Nat.le_refl _))),(heap_setCell_same W aG 6 _ _ (H J 0) fe.o),by rw [aD.o,XT,decide_eq_false (by omega)];(first | done | rfl)⟩
   ·by_cases h1:nk=1
    ·subst h1;go_wp2;go_meet;exact ⟨true,sa,ns,sc,mn,mx,mode,n,false,_,rfl,rfl,(c4.o.cn ((I.refl [aG] W).setCell (p:=⟨aG,7,none⟩) (.inl (by simp)) (F false)) (by intro x hx;simp at hx;subst hx;exact .inr (by rw [qk.o];exact Nat.le_refl _))),(heap_setCell_same W aG 7 _ _ (F false) fe.o),by rw [aD.o,XU];(first | done | rfl)⟩
    ·have q1:((nk:Int)==1)=false:=by simp;omega
     have q2:(nk==1)=false:=by simp;omega
     go_wp2;go_meet;exact ⟨false,sa,ns,sc,mn,mx,mode,n,false,_,rfl,rfl,(c4.o.cn ((I.refl [aG] W).setCell (p:=⟨aG,7,none⟩) (.inl (by simp)) (F false)) (by intro x hx;simp at hx;subst hx;exact .inr (by rw [qk.o];exact Nat.le_refl _))),(heap_setCell_same W aG 7 _ _ (F false) fe.o),by rw [aD.o,XU,decide_eq_false (by omega)];(first | done | rfl)⟩
   ·by_cases h1:nk=1
    ·subst h1;go_wp2;go_meet;exact ⟨true,sa,ns,sc,mn,mx,mode,n,false,_,rfl,rfl,(c4.o.cn ((I.refl [aG] W).setCell (p:=⟨aG,7,none⟩) (.inl (by simp)) (F false)) (by intro x hx;simp at hx;subst hx;exact .inr (by rw [qk.o];exact Nat.le_refl _))),(heap_setCell_same W aG 7 _ _ (F false) fe.o),by rw [aD.o,XV];(first | done | rfl)⟩
    ·have q1:((nk:Int)==1)=false:=by simp;omega
     have q2:(nk==1)=false:=by simp;omega
     go_wp2;go_meet;exact ⟨false,sa,ns,sc,mn,mx,mode,n,false,_,rfl,rfl,(c4.o.cn ((I.refl [aG] W).setCell (p:=⟨aG,7,none⟩) (.inl (by simp)) (F false)) (by intro x hx;simp at hx;subst hx;exact .inr (by rw [qk.o];exact Nat.le_refl _))),(heap_setCell_same W aG 7 _ _ (F false) fe.o),by rw [aD.o,XV,decide_eq_false (by omega)];(first | done | rfl)⟩
   ·by_cases h1:nk=1
    ·subst h1;go_wp2;go_meet;exact ⟨true,sa,ns,sc,mn,mx,mode,n,neg,_,rfl,rfl,c4.o,fe.o,by rw [aD.o,XW];(first | done | rfl)⟩
    ·have q1:((nk:Int)==1)=false:=by simp;omega
     have q2:(nk==1)=false:=by simp;omega
     go_wp2;go_meet;exact ⟨false,sa,ns,sc,mn,mx,mode,n,neg,_,rfl,rfl,c4.o,fe.o,by rw [aD.o,XW,decide_eq_false (by omega)];(first | done | rfl)⟩
   ·by_cases h1:nk=2
    ·subst h1;go_wp2;go_meet;exact ⟨nb,sa,ns,sc,mn,mx,mode,0,neg,_,rfl,rfl,(c4.o.cn ((I.refl [aG] W).setCell (p:=⟨aG,6,none⟩) (.inl (by simp)) (H J 0)) (by intro x hx;simp at hx;subst hx;exact .inr (by rw [qk.o];exact Nat.le_refl _))),(heap_setCell_same W aG 6 _ _ (H J 0) fe.o),by rw [aD.o,XO,←mW.o];(first | done | rfl)⟩
    ·have q1:((nk:Int)==2)=false:=by simp;omega
     have q2:(nk==2)=false:=by simp;omega
     go_wp2;go_meet;exact ⟨false,sa,ns,sc,mn,mx,mode,0,neg,_,rfl,rfl,(c4.o.cn ((I.refl [aG] W).setCell (p:=⟨aG,6,none⟩) (.inl (by simp)) (H J 0)) (by intro x hx;simp at hx;subst hx;exact .inr (by rw [qk.o];exact Nat.le_refl _))),(heap_setCell_same W aG 6 _ _ (H J 0) fe.o),by rw [aD.o,XO,decide_eq_false (by omega)];(first | done | rfl)⟩
   ·by_cases h1:nk=0
    ·subst h1
     by_cases h2:0≤n
     ·by_cases h3:n≤5
      ·skip
       go_wp2;go_meet;exact ⟨true,sa,ns,sc,mn,mx,mode,0,neg,_,rfl,rfl,(c4.o.cn ((I.refl [aG] W).setCell (p:=⟨aG,6,none⟩) (.inl (by simp)) (H J 0)) (by intro x hx;simp at hx;subst hx;exact .inr (by rw [qk.o];exact Nat.le_refl _))),(heap_setCell_same W aG 6 _ _ (H J 0) fe.o),by rw [aD.o,Ny,decide_eq_true (show 0≤n by omega),decide_eq_true (show n≤5 by omega)];(first | done | rfl)⟩
      ·skip
       go_wp2;go_meet;exact ⟨false,sa,ns,sc,mn,mx,mode,0,neg,_,rfl,rfl,(c4.o.cn ((I.refl [aG] W).setCell (p:=⟨aG,6,none⟩) (.inl (by simp)) (H J 0)) (by intro x hx;simp at hx;subst hx;exact .inr (by rw [qk.o];exact Nat.le_refl _))),(heap_setCell_same W aG 6 _ _ (H J 0) fe.o),by rw [aD.o,Ny,decide_eq_true (show 0≤n by omega),decide_eq_false (show ¬ n≤5 by omega)];(first | done | rfl)⟩
     ·skip
      go_wp2;go_meet;exact ⟨false,sa,ns,sc,mn,mx,mode,0,neg,_,rfl,rfl,(c4.o.cn ((I.refl [aG] W).setCell (p:=⟨aG,6,none⟩) (.inl (by simp)) (H J 0)) (by intro x hx;simp at hx;subst hx;exact .inr (by rw [qk.o];exact Nat.le_refl _))),(heap_setCell_same W aG 6 _ _ (H J 0) fe.o),by rw [aD.o,Ny,decide_eq_false (show ¬ 0≤n by omega)];(first | done | rfl)⟩
    ·have q1:((nk:Int)==0)=false:=by simp;omega
     have q2:(nk==0)=false:=by simp;omega
     go_wp2;go_meet;exact ⟨false,sa,ns,sc,mn,mx,mode,0,neg,_,rfl,rfl,(c4.o.cn ((I.refl [aG] W).setCell (p:=⟨aG,6,none⟩) (.inl (by simp)) (H J 0)) (by intro x hx;simp at hx;subst hx;exact .inr (by rw [qk.o];exact Nat.le_refl _))),(heap_setCell_same W aG 6 _ _ (H J 0) fe.o),by rw [aD.o,Ny,decide_eq_false (by omega)];(first | done | rfl)⟩
  ·have xw:=C (show R=false by rw [aD.o];exact aja op ns nk mn mx mode n neg caps ib (by omega));have dv:(op==0)=false:=by simp;omega
   have dI:(op==1)=false:=by simp;omega
   have ea:(op==2)=false:=by simp;omega
   have fo:(op==3)=false:=by simp;omega
   have gO:(op==4)=false:=by simp;omega
   have ha:(op==5)=false:=by simp;omega
   have hb:(op==6)=false:=by simp;omega
   have hd:(op==7)=false:=by simp;omega
   have ar1:(op==8)=false:=by simp;omega
   have ar2:(op==9)=false:=by simp;omega
   have arZ:(op==10)=false:=by simp;omega
   have ar0:(op==11)=false:=by simp;omega
   go_wp2;go_meet;exact ⟨false,sa,ns,sc,mn,mx,mode,n,neg,_,rfl,rfl,c4.o,fe.o,by rw [xw.o];(first | done | rfl)⟩
 case rest=>
  obtain ⟨gb,adM,nx,mG,mnx,Ip,LZ,L1,OW,ak,rfl,rfl,dh,fP,aY⟩:=hcut;have dG:=C dh;have jr:=C aY;obtain ⟨g0,g1,g2,g3,kx,k4,dz,kE⟩:=eR fP;clear dh aY fP ar c1 c2 an av ay ax az fc hcap
  cases gb with
  | false=>
   go_wp2;go_ret;exact ⟨by rw [jr.o];rfl,dG.o⟩
  | true=>
   by_cases ju:nx=0
   ·by_cases iz:mnx=0
    ·by_cases nR:Ip=0
     ·by_cases jj:LZ=0
      ·by_cases ir:L1=0
       ·subst ju iz nR jj ir
        cases OW with
        | false=> go_wp2;go_ret;exact ⟨by rw [jr.o];rfl,dG.o⟩
        | true=> go_wp2;go_ret;exact ⟨by rw [jr.o];rfl,dG.o⟩
       ·have gj:=C (show R=false by rw [jr.o];simp [nu,ir]);have ae:(L1==0)=false:=by simpa using ir
        subst ju iz nR jj;go_wp2;go_ret;exact ⟨by rw [gj.o];rfl,dG.o⟩
      ·have gj:=C (show R=false by rw [jr.o];simp [nu,jj]);have ae:(LZ==0)=false:=by simpa using jj
       subst ju iz nR;go_wp2;go_ret;exact ⟨by rw [gj.o];rfl,dG.o⟩
     ·have gj:=C (show R=false by rw [jr.o];simp [nu,nR]);have ae:(Ip==0)=false:=by simpa using nR
      subst ju iz;go_wp2;go_ret;exact ⟨by rw [gj.o];rfl,dG.o⟩
    ·have gj:=C (show R=false by rw [jr.o];simp [nu,iz]);have ae:(mnx==0)=false:=by simpa using iz
     subst ju;go_wp2;go_ret;exact ⟨by rw [gj.o];rfl,dG.o⟩
   ·have gj:=C (show R=false by rw [jr.o];simp [nu,ju]);have ae:(nx==0)=false:=by simpa using ju
    have q2:((nx:Int)==0)=false:=by simpa using ju
    go_wp2;go_ret;exact ⟨by rw [gj.o];rfl,dG.o⟩
def sw (w:World) (u:Nat) (x:Bool):Prop:=w.heap[u]? =some (.cells #[F x] 4 (0,0))
theorem sw.cell {w:World} {u:Nat} {x:Bool} (h:sw w u x):w.cell? ⟨u,0,none⟩=some (F x):=by unfold sw at h;simp [World.cell?,h]
theorem sw.fz {w:World} {u:Nat} {x:Bool} (h:sw w u x):w.frozen? ⟨u,0,none⟩=false:=by unfold sw at h;simp [World.frozen?,h]
theorem sw.ah {S:List Nat} {w w':World} {u:Nat} {x:Bool} (h:sw w u x) (k:I S w w') (cy:u ∉ S):sw w' u x:=k.heap h cy
theorem sw.set {w:World} {u:Nat} {x:Bool} (h:sw w u x) (y:Bool):sw (w.setCell ⟨u,0,none⟩ (F y)) u y:=heap_setCell_same _ u 0 _ _ _ h
theorem pU.lt {w:World} {u x:Nat} (h:pU w u x):u < w.heap.size:=lt_of_block h
theorem sw.lt {w:World} {u:Nat} {x:Bool} (h:sw w u x):u < w.heap.size:=lt_of_block h
structure JP (w:World) (S aG U T dJ:Nat) (cp top:Int):Prop where
 cap:w.cell? ⟨U,8,none⟩=some (H J cp)
 adS:w.cell? ⟨T,0,none⟩=some (H J top)
 fn:w.cell? ⟨dJ,0,none⟩=some (.func (Fn.func 100) #[] #[.pointer (some ⟨S,0,none⟩),.pointer (some ⟨aG,0,none⟩),.pointer (some ⟨U,0,none⟩),.pointer (some ⟨T,0,none⟩),.pointer (some ⟨dJ,0,none⟩)])
 Up:S≠U∧S≠T∧S≠dJ
 Uo:aG≠U∧aG≠T∧aG≠dJ
 Us:S≠aG
theorem JP.ah {w w':World} {fv:List Nat} {S aG U T dJ:Nat} {cp top:Int} (h:JP w S aG U T dJ cp top) (k:I fv w w') (zQ:∀ x∈fv,x=S∨x=aG):JP w' S aG U T dJ cp top:=by
 obtain ⟨a,b,c⟩:=h.Up;obtain ⟨d,e,f⟩:=h.Uo;refine ⟨k.cell h.cap ?_,k.cell h.adS ?_,k.cell h.fn ?_,h.Up,h.Uo,h.Us⟩
 ·intro hx;rcases zQ _ hx with h1 | h1;exact a h1.symm;exact d h1.symm
 ·intro hx;rcases zQ _ hx with h1 | h1;exact b h1.symm;exact e h1.symm
 ·intro hx;rcases zQ _ hx with h1 | h1;exact c h1.symm;exact f h1.symm
theorem adw (l:List Tree):∀ k,dV (l.take k)≤dV l:=by
 induction l with
 | nil=> intro k;simp
 | cons x r ih=> intro k;cases k with
  | zero=> simp [dV]
  | succ n=> have:=ih n;simp only [List.take_succ_cons,dV];omega
theorem aiC (l:List Tree):∀ k,eh (l.take k)≤eh l:=by
 induction l with
 | nil=> intro k;simp
 | cons x r ih=> intro k;cases k with
  | zero=> simp [eh]
  | succ n=> have:=ih n;simp only [List.take_succ_cons,eh];omega
theorem ahM {Eu:Type} {p:Eu→Bool} {l:List Eu} {k:Nat} (h:k < l.length):(l.take (k + 1)).all p=((l.take k).all p && p l[k]):=by
 rw [List.take_succ_eq_append_getElem h,List.all_append]
 simp
def W1 (S aG:Nat) (s d:Nat) (g:Bool) (z J6:Nat) (U6:Bool) (w:World) (e:Ending) (w':World):Prop:=
 ∃ (r:Bool) (x7:Nat) (hv:Bool),e=.returned (F r)∧I [S,aG] w w'∧pU w' S x7∧sw w' aG hv∧
  (r=true→x7=s + z∧s + z≤256∧d + J6≤25∧hv=(g && U6))∧(r=false→256 < s + z∨25 < d + J6)
end Go.Proofs.YtjnlkjlbejelgaaGreat
