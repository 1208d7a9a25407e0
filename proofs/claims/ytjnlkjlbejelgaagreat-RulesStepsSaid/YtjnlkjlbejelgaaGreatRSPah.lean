/- Part of the proof. No condition: every lemma says its own. -/
import Derived.Test.YtjnlkjlbejelgaaGreatRSPag
namespace Go.Proofs.YtjnlkjlbejelgaaGreat
open Go.RowKit
open Go.Value renaming int→H,slice→M,bool→F
open Go.IntKind renaming i64→J
set_option maxRecDepth 100000
set_option maxHeartbeats 16000000
theorem aco (m:MRe) (w:World) (aj:m.aK w) (aJ:m.ab.dE):
  Calls Tryz.prog 85 #[m.val] w (dc w m.aw (sq m.ab)):=by
 obtain ⟨bW,cQ⟩:∃ bW,bW=m:=⟨_,rfl⟩;have qn:=fun W=> Mf m W;have vu:=fun W=> NA m 1 (-1) W;have uW:sO m.ab=(oI m.ab || sg m.ab.op m.ab.mn m.ab.mx m.ab.mode 1 (-1)):=rfl;obtain ⟨cT,gQ⟩:∃ cT,cT=oI m.ab:=⟨_,rfl⟩;obtain ⟨g1,w6⟩:∃ g1,g1=sg m.ab.op m.ab.mn m.ab.mx m.ab.mode 1 (-1):=⟨_,rfl⟩;simp only [←gQ] at qn;simp only [←w6] at vu;rw [←gQ,←w6] at uW;clear gQ w6;obtain ⟨op,sa,sc,set,ka,kc,kids,mn,mx,mode,n,neg⟩:=m;have eC:=kB aJ;obtain ⟨U,aE,aB,c7,bI,ba,cZ,aH⟩:=rS w op sa sc set ka kc kids mn mx mode n neg;have hT:sq (MRe.ab (.node op sa sc set ka kc kids mn mx mode n neg))=sq (.node op set (MRe.al kids) mn mx mode n neg):=rfl;have tr:sO (MRe.ab (.node op sa sc set ka kc kids mn mx mode n neg))=sO (.node op set (MRe.al kids) mn mx mode n neg):=rfl;rw [hT];rw [tr] at uW;simp only [MRe.val] at qn vu ⊢;have qn:=C qn;have vu:=C vu;have hj:=C (I.refl [] aE);clear hT tr cQ;have MA:=C uW
 by_cases eY:sO (.node op set (MRe.al kids) mn mx mode n neg)=true
 ·have h4:op=4:=X5 eY;subst h4;have lE:kids.length=1:=eC.hone (by simp);have yo:=C lE;have hln:(0:Int) < (kids.length:Int):=by omega
  have l7:0 < kids.length:=by omega
  have Lx:(cT || g1)=true:=by rw [←uW];exact eY
  clear lE uW;obtain ⟨b1,cR,dq,rfl,iM,hD,jf,hP⟩:=aj.kids.head l7;obtain ⟨r,aO⟩:=oJ hD;have hg:(MRe.al kids).getD 0 .nil=dq.ab:=by rw [aO];rfl
  have cP:=mS aJ iM;have qA:∀ ae∈dq.aw,ae∈(MRe.node 4 sa sc set (some ⟨b1,cR,none⟩) kc kids mn mx mode n neg).aw:=mF iM;have rG:sq (.node 4 set (MRe.al kids) mn mx mode n neg)=if sO dq.ab=true∧fA (dq.ab.kids.getD 0 .nil)=false then some (.node 4 [] dq.ab.kids (min mn dq.ab.mn) (-1) 0 0 false) else none:=by
   rw [sq,hg,eY];simp only [true_and]
  have j3:=fun W=> Mf dq W;have r0:=fun W=> NA dq 1 (-1) W;have N0:sO dq.ab=(oI dq.ab || sg dq.ab.op dq.ab.mn dq.ab.mx dq.ab.mode 1 (-1)):=rfl;obtain ⟨s2,gn⟩:∃ s2,s2=oI dq.ab:=⟨_,rfl⟩;obtain ⟨g2,sZ⟩:∃ g2,g2=sg dq.ab.op dq.ab.mn dq.ab.mx dq.ab.mode 1 (-1):=⟨_,rfl⟩;simp only [←gn] at j3;simp only [←sZ] at r0;rw [←gn,←sZ] at N0;obtain ⟨k5,S7⟩:∃ k5,k5=dq:=⟨_,rfl⟩;have uH:=C S7;have fT:=C (fun (h:sO dq.ab=true)=> X5 h);have sA:=C cP;have Qs:=C hP;have pP:=C qA;have eU:=C aj.fi;rw [←S7] at rG N0;have BU:=C rG;have VI:=C N0;obtain ⟨op1,aM,aN,set1,aS,kc1,aq,mn1,aI,mode1,n1,aL⟩:=dq;have g:=jf.node;obtain ⟨bg,aV,a6,bl,bq,bE,bF,bH⟩:=id g;obtain ⟨bK,d1,d2,bL,bO,bT,bU,bV⟩:=aH.o.au bg aV a6 bl bq bE bF bH;simp only [MRe.val] at j3 r0;have j3:=C j3;have r0:=C r0;clear g bg aV a6 bl bq bE bF bH hg aO hD iM jf hP cP aJ aj qA rG N0 gn sZ S7 eC eY;obtain ⟨ar,c1,c2,an,av,ay,ax,az⟩:=bI.o.ez;go_enter Tryz.func85,Tryz.ntmps85
  go_upto_region 1 with fail
  rw [←c7.o,←aB.o]
  go_cut [12] (fun anz db=> anz=F false∧∃ W,W=db∧I [] aE W)
  case first=>
   cases cT with
   | true=>
    go_wp2_with fail
    refine Calls.mono (qn.o _) ?_;rintro e w2 ⟨rfl,hk2⟩;have aU:=C hk2;clear hk2;go_wp2;go_meet;exact ⟨rfl,_,rfl,aU.o⟩
   | false=>
    obtain rfl:g1=true:=by simpa using Lx
    go_wp2_with fail
    refine Calls.mono (qn.o _) ?_;rintro e w2 ⟨rfl,hk2⟩;have aU:=C hk2;obtain ⟨u0,u1,u2,u3,u4,u5,u6,u7⟩:=aU.o.au ar c1 c2 an av ay ax az;clear hk2 ar c1 c2 an av ay ax az;go_wp2_with fail
    refine Calls.mono (vu.o _) ?_;rintro e w3 ⟨rfl,aP⟩;have aR:=C (aU.o.trans aP);clear aP;go_wp2;go_meet;exact ⟨rfl,_,rfl,aR.o⟩
  case rest=>
   obtain ⟨rfl,W,rfl,lF⟩:=hcut;have c4:=C lF;obtain ⟨t0,t1,fu,t3,t4,t5,jm,jn⟩:=c4.o.au ar c1 c2 an av ay ax az;obtain ⟨v0,v1,v2,v3,v4,v5,v6,v7⟩:=c4.o.au bK d1 d2 bL bO bT bU bV;clear lF ar c1 c2 an av ay ax az bK d1 d2 bL bO bT bU bV Lx;go_upto_region 4 with fail
   obtain ⟨dJ,n4⟩:∃ dJ,dJ=W.heap.size:=⟨_,rfl⟩;obtain ⟨aA,c5⟩:∃ aA,aA=W.alloc (bf op1 aM set1 aN aS aq kc1 mn1 aI mode1 n1 aL):=⟨_,rfl⟩;have hat:fb aA dJ 0 (.node op1 aM aN set1 aS kc1 aq mn1 aI mode1 n1 aL):=by rw [c5,n4];exact fb.box rfl
   have eZ:I [] W aA:=by rw [c5];exact I.a1 _ _
   rw [←c5,←n4];have Mw:=C n4;have aZ:=C (c4.o.trans eZ);obtain ⟨c6,y1,dp,eb,ef,ej,ek,el⟩:=eZ.au t0 t1 fu t3 t4 t5 jm jn;obtain ⟨fQ,p1,p2,jh,ji,lq,lr,lu⟩:=hat.ez;have aar:(MRe.ab (.node op1 aM aN set1 aS kc1 aq mn1 aI mode1 n1 aL)).op=op1:=rfl;have aft:=C aar;clear n4 c5 hat eZ t0 t1 fu t3 t4 t5 jm jn v0 v1 v2 v3 v4 v5 v6 v7 aar
   by_cases gA:sO k5.ab=true
   ·have h4:op1=4:=by have:=fT.o (by rw [←uH.o];exact gA);rw [aft.o] at this;exact this
    subst h4;have Te:aq.length=1:=(kB sA.o).hone (by simp);have HQ:(0:Int) < (aq.length:Int):=by omega
    have ZR:0 < aq.length:=by omega
    clear Te;obtain ⟨b3,iV,fk,rfl,n7,w8,mI,mJ⟩:=Qs.o.kids.head ZR;obtain ⟨nR,rh⟩:=oJ w8;have il:k5.ab.kids.getD 0 .nil=fk.ab:=by
     have:k5.ab.kids=MRe.al aq:=by rw [uH.o];rfl
     rw [this,rh];rfl
    have hK:=fun (ak:World) (h:I [] w ak)=> Ej fk ak (mJ.ah h);obtain ⟨ae,hq⟩:∃ ae,ae=fA fk.ab:=⟨_,rfl⟩;have Yv:sq (.node 4 set (MRe.al kids) mn mx mode n neg)=if ae=false then some (.node 4 [] k5.ab.kids (min mn k5.ab.mn) (-1) 0 0 false) else none:=by
     rw [BU.o,gA,il,←hq];simp only [true_and]
    have VV:=C Yv;simp only [←hq] at hK;have Ly:(s2 || g2)=true:=by rw [←VI.o];exact gA
    obtain ⟨op3,dk,dm,set3,di,dj,kids3,cA,cC,cB,cv,cx⟩:=fk;have g:=mI.node;obtain ⟨bg,aV,a6,bl,bq,bE,bF,bH⟩:=id g;have bK:=(aH.o.trans aZ.o).c bg;have d1:=(aH.o.trans aZ.o).c aV;have d2:=(aH.o.trans aZ.o).c a6;have bL:=(aH.o.trans aZ.o).c bl;have bO:=(aH.o.trans aZ.o).c bq;have bT:=(aH.o.trans aZ.o).c bE;have bU:=(aH.o.trans aZ.o).c bF;have bV:=(aH.o.trans aZ.o).c bH;simp only [MRe.val] at hK;have hK:=C hK;clear g bg aV a6 bl bq bE bF bH n7 w8 mI mJ rh il hq Yv gA
    go_cut [32] (fun ac9 db=> ac9=F ae∧∃ ak,ak=db∧I [] aA ak)
    case first=>
     cases s2 with
     | true=>
      go_wp2_with fail
      refine Calls.mono (j3.o _) ?_;rintro e w2 ⟨rfl,hk2⟩;have aU:=C hk2;obtain ⟨u0,u1,u2,u3,u4,u5,u6,u7⟩:=aU.o.au fQ p1 p2 jh ji lq lr lu;obtain ⟨t0,t1,fu,t3,t4,t5,jm,jn⟩:=aU.o.au bK d1 d2 bL bO bT bU bV;clear hk2 fQ p1 p2 jh ji lq lr lu bK d1 d2 bL bO bT bU bV;go_wp2_with fail
      refine Calls.mono (hK.o _ ((aH.o.trans aZ.o).trans aU.o)) ?_;rintro e w3 ⟨rfl,aP⟩;have aR:=C (aU.o.trans aP);clear aP;go_wp2;go_meet;exact ⟨rfl,_,rfl,aR.o⟩
     | false=>
      obtain rfl:g2=true:=by simpa using Ly
      go_wp2_with fail
      refine Calls.mono (j3.o _) ?_;rintro e w2 ⟨rfl,hk2⟩;have aU:=C hk2;obtain ⟨u0,u1,u2,u3,u4,u5,u6,u7⟩:=aU.o.au fQ p1 p2 jh ji lq lr lu;obtain ⟨t0,t1,fu,t3,t4,t5,jm,jn⟩:=aU.o.au bK d1 d2 bL bO bT bU bV;clear hk2 fQ p1 p2 jh ji lq lr lu bK d1 d2 bL bO bT bU bV;go_wp2_with fail
      refine Calls.mono (r0.o _) ?_;rintro e w3 ⟨rfl,aP⟩;have aR:=C (aU.o.trans aP);obtain ⟨v0,v1,v2,v3,v4,v5,v6,v7⟩:=aP.au u0 u1 u2 u3 u4 u5 u6 u7;obtain ⟨dv,dI,ea,fo,gO,ha,hb,hd⟩:=aP.au t0 t1 fu t3 t4 t5 jm jn;clear aP u0 u1 u2 u3 u4 u5 u6 u7 t0 t1 fu t3 t4 t5 jm jn;go_wp2_with fail
      refine Calls.mono (hK.o _ ((aH.o.trans aZ.o).trans aR.o)) ?_;rintro e w4 ⟨rfl,bc⟩;have cl:=C (aR.o.trans bc);clear bc;go_wp2;go_meet;exact ⟨rfl,_,rfl,cl.o⟩
    case rest=>
     obtain ⟨rfl,ak,rfl,Bv⟩:=hcut;have dG:=C (aZ.o.trans Bv);obtain ⟨t0,t1,fu,t3,t4,t5,jm,jn⟩:=Bv.au c6 y1 dp eb ef ej ek el;obtain ⟨v0,v1,v2,v3,v4,v5,v6,v7⟩:=Bv.au fQ p1 p2 jh ji lq lr lu;clear Bv c6 y1 dp eb ef ej ek el fQ p1 p2 jh ji lq lr lu bK d1 d2 bL bO bT bU bV Ly
     cases ae with
     | true=>
      have aD:=C (show sq (.node 4 set (MRe.al kids) mn mx mode n neg)=none by rw [VV.o,if_neg (by simp)]);obtain ⟨z0,z1,z2,z3,z4,z5,b9,cc,cj,cw,bQ⟩:=gR aB.o aH.o dG.o ba.o;go_wp2;refine rt cw.o ?_;exact dc.dL aD.o rfl bQ.o
     | false=>
      have aD:=C (show sq (.node 4 set (MRe.al kids) mn mx mode n neg)=some (.node 4 [] k5.ab.kids (min mn k5.ab.mn) (-1) 0 0 false) by rw [VV.o,if_pos rfl]);obtain ⟨z0,z1,z2,z3,z4,z5,b9,cc,cj⟩:=ew (dG.o.h ba.o);go_wp2
      all_goals
       first
       | (have DC:mn=min mn mn1:=by omega
          have cU:=jv ak (U + 1) (H J 4) (M none 0 0) (M (some ⟨b3,iV,none⟩) aq.length kc1) (H J mn) (H J (-1)) (H J 0) (H J 0) (F false);have aY:=rm (dG.o.h ba.o) (H J 4) (M none 0 0) (M (some ⟨b3,iV,none⟩) aq.length kc1) (H J mn) (H J (-1)) (H J 0) (H J 0) (F false);refine rt aY ?_;have hnb:∀ ae∈df aq.length (some ⟨b3,iV,none⟩) ++ MRe.dN aq,ae∈(MRe.node 4 sa sc set (some ⟨b1,cR,none⟩) kc kids mn mx mode n neg).aw:=fun ae hq=> pP.o ae (by simp only [MRe.aw,List.mem_append] at hq ⊢;exact .inr hq);refine dc.iI (.node 4 none 0 [] (some ⟨b3,iV,none⟩) kc1 aq mn (-1) 0 0 false) (by rw [aD.o,uH.o];show some (Tree.node 4 [] (MRe.al aq) (min mn mn1) (-1) 0 0 false)=some (Tree.node 4 [] (MRe.al aq) mn (-1) 0 0 false);rw [←DC]) rfl (.hR (eK.nil _) ((Qs.o.kids.ah (aH.o.trans dG.o)).bG cU fun ae hq=> ?_)) ((aH.o.trans dG.o).cn cU (by intro x hx;simp at hx;subst hx;exact .inr (by rw [aB.o];omega))) ?_
          ·have:=eU.o ae (hnb ae hq);have:=aB.o;simp;omega
          ·intro ae hq;simp only [MRe.aw,List.mem_append] at hq
           rcases hq with hq | hq
           ·simp [df] at hq
           ·exact .inl (hnb ae (by simp only [List.mem_append];exact hq)))
       | (have DC:mn1=min mn mn1:=by omega
          have cU:=jv ak (U + 1) (H J 4) (M none 0 0) (M (some ⟨b3,iV,none⟩) aq.length kc1) (H J mn1) (H J (-1)) (H J 0) (H J 0) (F false);have aY:=rm (dG.o.h ba.o) (H J 4) (M none 0 0) (M (some ⟨b3,iV,none⟩) aq.length kc1) (H J mn1) (H J (-1)) (H J 0) (H J 0) (F false);refine rt aY ?_;have hnb:∀ ae∈df aq.length (some ⟨b3,iV,none⟩) ++ MRe.dN aq,ae∈(MRe.node 4 sa sc set (some ⟨b1,cR,none⟩) kc kids mn mx mode n neg).aw:=fun ae hq=> pP.o ae (by simp only [MRe.aw,List.mem_append] at hq ⊢;exact .inr hq);refine dc.iI (.node 4 none 0 [] (some ⟨b3,iV,none⟩) kc1 aq mn1 (-1) 0 0 false) (by rw [aD.o,uH.o];show some (Tree.node 4 [] (MRe.al aq) (min mn mn1) (-1) 0 0 false)=some (Tree.node 4 [] (MRe.al aq) mn1 (-1) 0 0 false);rw [←DC]) rfl (.hR (eK.nil _) ((Qs.o.kids.ah (aH.o.trans dG.o)).bG cU fun ae hq=> ?_)) ((aH.o.trans dG.o).cn cU (by intro x hx;simp at hx;subst hx;exact .inr (by rw [aB.o];omega))) ?_
          ·have:=eU.o ae (hnb ae hq);have:=aB.o;simp;omega
          ·intro ae hq;simp only [MRe.aw,List.mem_append] at hq
           rcases hq with hq | hq
           ·simp [df] at hq
           ·exact .inl (hnb ae (by simp only [List.mem_append];exact hq)))
   ·have aD:=C (show sq (.node 4 set (MRe.al kids) mn mx mode n neg)=none by rw [BU.o,if_neg (fun h=> gA h.1)]);have Ly:(s2 || g2)=false:=by rw [←VI.o];simpa using gA
    obtain ⟨rfl,rfl⟩:s2=false∧g2=false:=by simpa using Ly
    clear gA Ly;go_wp2_with fail
    refine Calls.mono (j3.o _) ?_;rintro e w2 ⟨rfl,hk2⟩;have aU:=C hk2;obtain ⟨u0,u1,u2,u3,u4,u5,u6,u7⟩:=aU.o.au fQ p1 p2 jh ji lq lr lu;clear hk2 fQ p1 p2 jh ji lq lr lu c6 y1 dp eb ef ej ek el;go_wp2_with fail
    refine Calls.mono (r0.o _) ?_;rintro e w3 ⟨rfl,aP⟩;have aR:=C (aZ.o.trans (aU.o.trans aP));clear aP;obtain ⟨z0,z1,z2,z3,z4,z5,b9,cc,cj,cw,bQ⟩:=gR aB.o aH.o aR.o ba.o;go_wp2;refine rt cw.o ?_;exact dc.dL aD.o rfl bQ.o
 ·have aD:=C (show sq (.node op set (MRe.al kids) mn mx mode n neg)=none by rw [sq,if_neg (fun h=> eY h.1)]);have Lx:(cT || g1)=false:=by rw [←uW];simpa using eY
  obtain ⟨rfl,rfl⟩:cT=false∧g1=false:=by simpa using Lx
  clear uW eY Lx;obtain ⟨ar,c1,c2,an,av,ay,ax,az⟩:=bI.o.ez;go_enter Tryz.func85,Tryz.ntmps85
  go_upto_region 1 with fail
  rw [←c7.o,←aB.o];go_wp2_with fail
  refine Calls.mono (qn.o _) ?_;rintro e w2 ⟨rfl,hk2⟩;have aU:=C hk2;obtain ⟨u0,u1,u2,u3,u4,u5,u6,u7⟩:=aU.o.au ar c1 c2 an av ay ax az;clear hk2 ar c1 c2 an av ay ax az;go_wp2_with fail
  refine Calls.mono (vu.o _) ?_;rintro e w3 ⟨rfl,aP⟩;have aR:=C (aU.o.trans aP);clear aP;obtain ⟨z0,z1,z2,z3,z4,z5,b9,cc,cj,cw,bQ⟩:=gR aB.o aH.o aR.o ba.o;go_wp2;refine rt cw.o ?_;exact dc.dL aD.o rfl bQ.o
def Br (k:Tree):Bool:=k.op==4 && (k.mode==0 && (k.mn !=k.mx && (k.kids.getD 0 .nil).op==1))
def oZ:List Tree→Option Nat
 | []=> none
 | k::ks=> if (Br k && (!qP ks && !q8 (k.kids.getD 0 .nil).set ks))=true then some 0 else (oZ ks).map (· + 1)
def tY:Tree→Tree
 | .node op set kids mn mx _ n neg=> .node op set kids mn mx 2 n neg
def p0:Tree→Option Tree
 | .node op _ kids _ _ _ _ _=> if op=2 then (oZ kids).map fun i=> hF 2 kids i (i + 1) [tY (kids.getD i .nil)] else none
theorem HW {l:List Tree} {k:Nat} {x:Tree} {r:List Tree} {o:Option Nat} (dB:l.drop k=x::r) (aO:r=l.drop (k + 1)) (hn:(Br x && (!qP r && !q8 (x.kids.getD 0 .nil).set r))=false) (h:(oZ (l.drop k)).map (· + k)=o):(oZ (l.drop (k + 1))).map (· + (k + 1))=o:=by
 rw [dB,oZ,if_neg (by rw [hn];simp)] at h;rw [←aO,←h]
 cases oZ r with
 | none=> rfl
 | some i=> simp;omega
theorem aap {l:List Tree} {k:Nat} {x:Tree} {r:List Tree} {o:Option Nat} (dB:l.drop k=x::r) (hn:(Br x && (!qP r && !q8 (x.kids.getD 0 .nil).set r))=true) (h:(oZ (l.drop k)).map (· + k)=o):o=some k:=by
 rw [dB,oZ,if_pos hn] at h;rw [←h];simp
theorem eR {w:World} {g T:Nat} {v0 v1 v2 v3 v4 v5 v6 v7:Value} (h:w.heap[g]? =some (.cells #[v0,v1,v2,v3,v4,v5,v6,v7] T (0,0))):
  w.cell? ⟨g,0,none⟩=some v0∧w.cell? ⟨g,1,none⟩=some v1∧w.cell? ⟨g,2,none⟩=some v2∧w.cell? ⟨g,3,none⟩=some v3∧w.cell? ⟨g,4,none⟩=some v4∧w.cell? ⟨g,5,none⟩=some v5∧w.cell? ⟨g,6,none⟩=some v6∧w.cell? ⟨g,7,none⟩=some v7:=by
 simp [World.cell?,h]
theorem h6 {w:World} {g T:Nat} {cs:Array Value} (h:w.heap[g]? =some (.cells cs T (0,0))) (o:Nat):w.frozen? ⟨g,o,none⟩=false:=by
 simp [World.frozen?,h]
theorem tD (w:World) (op:Int) (sa:Option Addr) (sc:Nat) (set:List (Int × Int)) (ka:Option Addr) (kc:Nat) (kids:List MRe) (mn mx mode n:Int) (neg:Bool):∃ (U:Nat) (aA:World),aA.cell? ⟨U,0,none⟩=some (H J op)∧aA.cell? ⟨U,1,none⟩=some (M sa set.length sc)∧aA.cell? ⟨U,2,none⟩=some (M ka kids.length kc)∧aA.cell? ⟨U,3,none⟩=some (H J mn)∧aA.cell? ⟨U,4,none⟩=some (H J mx)∧aA.cell? ⟨U,5,none⟩=some (H J mode)∧aA.cell? ⟨U,6,none⟩=some (H J n)∧aA.cell? ⟨U,7,none⟩=some (F neg)∧sF (aA=w.alloc (bf op sa set sc ka kids kc mn mx mode n neg))∧sF (U=w.heap.size)∧sF (I [] w aA):=by
 obtain ⟨ar,c1,c2,an,av,ay,ax,az⟩:=eR (heap_alloc_new w (bf op sa set sc ka kids kc mn mx mode n neg));exact ⟨_,_,ar,c1,c2,an,av,ay,ax,az,⟨rfl⟩,⟨rfl⟩,⟨I.a1 _ _⟩⟩
theorem nc (w:World) (op1:Int) (aM:Option Addr) (aN:Nat) (set1:List (Int × Int)) (aS:Option Addr) (kc1:Nat) (aq:List MRe) (mn1 aI mode1 n1:Int) (aL:Bool) (op2:Int) (cg:Option Addr) (cf:Nat) (bj:List (Int × Int)) (ct:Option Addr) (kc2:Nat) (a8:List MRe) (mn2 bY bX bn:Int) (bZ:Bool):∃ (U:Nat) (aA:World),aA.cell? ⟨U,0,none⟩=some (H J op1)∧aA.cell? ⟨U,1,none⟩=some (M aM set1.length aN)∧aA.cell? ⟨U,2,none⟩=some (M aS aq.length kc1)∧aA.cell? ⟨U,3,none⟩=some (H J mn1)∧aA.cell? ⟨U,4,none⟩=some (H J aI)∧aA.cell? ⟨U,5,none⟩=some (H J mode1)∧aA.cell? ⟨U,6,none⟩=some (H J n1)∧aA.cell? ⟨U,7,none⟩=some (F aL)∧aA.cell? ⟨U + 1,0,none⟩=some (H J op2)∧aA.cell? ⟨U + 1,1,none⟩=some (M cg bj.length cf)∧aA.cell? ⟨U + 1,2,none⟩=some (M ct a8.length kc2)∧aA.cell? ⟨U + 1,3,none⟩=some (H J mn2)∧aA.cell? ⟨U + 1,4,none⟩=some (H J bY)∧aA.cell? ⟨U + 1,5,none⟩=some (H J bX)∧aA.cell? ⟨U + 1,6,none⟩=some (H J bn)∧aA.cell? ⟨U + 1,7,none⟩=some (F bZ)∧sF (aA=(w.alloc (bf op1 aM set1 aN aS aq kc1 mn1 aI mode1 n1 aL)).alloc (bf op2 cg bj cf ct a8 kc2 mn2 bY bX bn bZ))∧sF (U=w.heap.size)∧sF (I [] w aA):=by
 obtain ⟨ar,c1,c2,an,av,ay,ax,az⟩:=eR ((I.a1 (w.alloc (bf op1 aM set1 aN aS aq kc1 mn1 aI mode1 n1 aL)) (bf op2 cg bj cf ct a8 kc2 mn2 bY bX bn bZ)).heap (heap_alloc_new w _) (by simp));obtain ⟨bK,d1,d2,bL,bO,bT,bU,bV⟩:=eR (heap_alloc2_new w (bf op1 aM set1 aN aS aq kc1 mn1 aI mode1 n1 aL) (bf op2 cg bj cf ct a8 kc2 mn2 bY bX bn bZ));exact ⟨_,_,ar,c1,c2,an,av,ay,ax,az,bK,d1,d2,bL,bO,bT,bU,bV,⟨rfl⟩,⟨rfl⟩,⟨I.a2 _ _ _⟩⟩
theorem nd {w aE W:World} {U T:Nat} {src:List Nat} {op sa sc set ka kc kids mn mx mode n neg} (gA:U=w.heap.size) (mj:I [] w aE) (lF:I [] aE W) (aW:aE.heap[U + 1]? =some (.cells #[H J 0,M none 0 0,M none 0 0,H J 0,H J 0,H J 0,H J 0,F false] T (0,0)))
  (Gx:MRe.aK W (.node op sa sc set ka kc kids mn mx mode n neg)) (AD:du (U + 2) src (MRe.node op sa sc set ka kc kids mn mx mode n neg).aw) (aQ:∀ b∈src,b < w.heap.size):
  (hE W (U + 1) (H J op) (M sa set.length sc) (M ka kids.length kc) (H J mn) (H J mx) (H J mode) (H J n) (F neg)).heap[U + 1]? =some (.cells #[H J op,M sa set.length sc,M ka kids.length kc,H J mn,H J mx,H J mode,H J n,F neg] T (0,0))∧
  MRe.aK (hE W (U + 1) (H J op) (M sa set.length sc) (M ka kids.length kc) (H J mn) (H J mx) (H J mode) (H J n) (F neg)) (.node op sa sc set ka kc kids mn mx mode n neg)∧
  I [] w (hE W (U + 1) (H J op) (M sa set.length sc) (M ka kids.length kc) (H J mn) (H J mx) (H J mode) (H J n) (F neg))∧
  du w.heap.size src (MRe.node op sa sc set ka kc kids mn mx mode n neg).aw:=by
 have cU:=jv W (U + 1) (H J op) (M sa set.length sc) (M ka kids.length kc) (H J mn) (H J mx) (H J mode) (H J n) (F neg);refine ⟨rm (lF.h aW) _ _ _ _ _ _ _ _,Gx.bG cU fun b ad=> ?_,(mj.trans lF).cn cU (by intro x hx;simp at hx;subst hx;exact .inr (by omega)),fun b ad=> ?_⟩
 ·rcases AD b ad with h | h
  ·have:=aQ b h;simp;omega
  ·simp;omega
 ·rcases AD b ad with h | h
  ·exact .inl h
  ·exact .inr (by omega)
theorem aaq (m:MRe) (w:World) (aj:m.aK w) (aJ:m.ab.dE) (ad:m.ab.bm≤100000):
  Calls Tryz.prog 89 #[m.val] w (dc w m.aw (p0 m.ab)):=by
 have LA:=fun (W:World) (h:I [] w W) (i:Nat) (cS:Option Addr) (l:MRe)=> GH m i (i + 1) cS 1 [l] W (aj.ah h);obtain ⟨op,sa,sc,set,ka,kc,kids,mn,mx,mode,n,neg⟩:=m;have hbk:=(lG ad).1;have eC:=kB aJ;obtain ⟨U,aE,aB,c7,bI,ba,cZ,aH⟩:=rS w op sa sc set ka kc kids mn mx mode n neg;have hj:=C (I.refl [] aE);have hC:=C cZ;have eX:=C LA;have eU:=C aj.fi;have hT:p0 (MRe.ab (.node op sa sc set ka kc kids mn mx mode n neg))=p0 (.node op set (MRe.al kids) mn mx mode n neg):=rfl;rw [hT];simp only [MRe.val];clear hT ad LA
 by_cases h2:op=2
 ·subst h2;have jC:=eC.vc (by simp);have aY:p0 (.node 2 set (MRe.al kids) mn mx mode n neg)=(oZ (MRe.al kids)).map fun i=> hF 2 (MRe.al kids) i (i + 1) [tY ((MRe.al kids).getD i .nil)]:=by rw [p0,if_pos rfl]
  have jr:=C aY;obtain ⟨b,off,rfl,lk,hx⟩:=aj.ch.dy (by omega);have hcap:=aj.ch.cap;have fc:=aj.ch.le;unfold maxLen at hcap;have hM:=C hx;have iL:=C aj;have C6:=C aJ;clear aY hx aj aJ eC lk;obtain ⟨ar,c1,c2,an,av,ay,ax,az⟩:=bI.o.ez;go_enter Tryz.func89,Tryz.ntmps89
  go_upto_region 1 with fail
  rw [←c7.o,←aB.o];go_wp2
  go_loopw [14] (fun i wr=> ∃ k:Nat,k≤kids.length∧i=H J k∧(oZ ((MRe.al kids).drop k)).map (· + k)=oZ (MRe.al kids)∧I [] aE wr) (fun i _=> kids.length - (intOf i).toNat)
  case atStart=> exact ⟨0,Nat.zero_le _,rfl,by rw [List.drop_zero];cases oZ (MRe.al kids) <;> rfl,I.refl _ _⟩
  case round=>
   obtain ⟨k,hk,rfl,hl,ck⟩:=hrel;have jG:=C hl;have cX:=C ck;obtain ⟨t0,t1,fu,t3,t4,t5,jm,jn⟩:=ck.au ar c1 c2 an av ay ax az;clear hl ck ar c1 c2 an av ay ax az
   by_cases aQ:k < kids.length
   ·have dB:=wt kids k aQ;have gi:=C dB;have sV:=hM.o k aQ;have cm:=iL.o.dy (List.getElem_mem aQ);have Bj:=mS C6.o (List.getElem_mem aQ);have hbl:=mF (op:=2) (sa:=sa) (sc:=sc) (set:=set) (ka:=some ⟨b,off,none⟩) (kc:=kc) (mn:=mn) (mx:=mx) (mode:=mode) (n:=n) (neg:=neg) (List.getElem_mem aQ);have xO:(MRe.al kids).getD k .nil=kids[k].ab:=by rw [List.getD_eq_getElem?_getD,List.getElem?_eq_getElem (by rw [MRe.ee];omega),Option.getD_some,kQ]
    obtain ⟨dq,je⟩:∃ dq,dq=kids[k]:=⟨_,rfl⟩;rw [←je] at sV cm Bj hbl xO dB;have gi:=C dB;have jq:=C cm;have GX:=C Bj;have kS:=C hbl;have Jd:=C xO;obtain ⟨k5,hD⟩:∃ k5,k5=dq:=⟨_,rfl⟩;have uH:=C hD;rw [←hD] at gi Jd;clear je dB cm Bj hbl xO hD;obtain ⟨op1,aM,aN,set1,aS,kc1,aq,mn1,aI,mode1,n1,aL⟩:=dq;have g:=sV.node;obtain ⟨bg,aV,a6,bl,bq,bE,bF,bH⟩:=id g;have bK:=(aH.o.trans cX.o).c bg;have d1:=(aH.o.trans cX.o).c aV;have d2:=(aH.o.trans cX.o).c a6;have bL:=(aH.o.trans cX.o).c bl;have bO:=(aH.o.trans cX.o).c bq;have bT:=(aH.o.trans cX.o).c bE;have bU:=(aH.o.trans cX.o).c bF;have bV:=(aH.o.trans cX.o).c bH;clear g bg aV a6 bl bq bE bF bH sV;go_upto_region 6 with fail
    obtain ⟨dJ,n4⟩:∃ dJ,dJ=wr.heap.size:=⟨_,rfl⟩;obtain ⟨aA,c5⟩:∃ aA,aA=wr.alloc (bf op1 aM set1 aN aS aq kc1 mn1 aI mode1 n1 aL):=⟨_,rfl⟩;have eZ:I [] wr aA:=by rw [c5];exact I.a1 _ _
    have sQ:aA.heap[dJ]? =some (bf op1 aM set1 aN aS aq kc1 mn1 aI mode1 n1 aL):=by rw [c5,n4];exact heap_alloc_new wr _
    rw [←c5,←n4];have Fv:aE.heap.size≤dJ:=by rw [n4];exact cX.o.size
    have Hy:U + 2≤dJ:=Nat.le_trans cZ Fv;have QP:=C Fv;clear Fv;have aZ:=C (cX.o.trans eZ);obtain ⟨c6,y1,dp,eb,ef,ej,ek,el⟩:=eZ.au t0 t1 fu t3 t4 t5 jm jn;obtain ⟨fQ,p1,p2,jh,ji,lq,lr,lu⟩:=(fb.kq (m:=.node op1 aM aN set1 aS kc1 aq mn1 aI mode1 n1 aL) sQ rfl).ez;have xo:=C sQ;clear n4 c5 eZ sQ t0 t1 fu t3 t4 t5 jm jn bK d1 d2 bL bO bT bU bV;have po:Br k5.ab=(op1==4 && (mode1==0 && (mn1 !=aI && ((MRe.al aq).getD 0 .nil).op==1))):=by rw [uH.o];rfl
    have P0:=C po;obtain ⟨z,aW⟩:∃ z,z=Br k5.ab:=⟨_,rfl⟩;rw [←aW] at po;have EZ:=C aW;clear aW
    go_cut [41] (fun anE db=> anE=F (!z)∧aA=db)
    case first=>
     by_cases a4:op1=4
     ·subst a4
      by_cases a0:mode1=0
      ·subst a0
       by_cases Ba:mn1=aI
       ·subst Ba;obtain rfl:z=false:=by rw [po];simp
        clear po;go_wp2;go_meet;exact ⟨rfl,rfl⟩
       ·have oB:0 < aq.length:=by rw [(kB GX.o).hone (by simp)];omega
        have Tc:(0:Int) < (aq.length:Int):=by omega
        obtain ⟨b3,iV,fk,rfl,n7,w8,mI,mJ⟩:=jq.o.kids.head oB;obtain ⟨nR,rh⟩:=oJ w8;rw [rh] at po;have LG:z=(fk.ab.op==1):=by rw [po];simp [Ba]
        have KK:(mn1==aI)=false:=by simpa using Ba
        obtain ⟨op3,dk,dm,set3,di,dj,kids3,cA,cC,cB,cv,cx⟩:=fk;have dv:=(aH.o.trans aZ.o).cell mI.node.ar (by simp);have CE:z=(op3==1):=LG;clear po LG rh n7 w8 mI mJ
        by_cases a1:op3=1
        ·subst a1;obtain rfl:z=true:=by rw [CE];rfl
         clear CE;go_wp2;go_meet;exact ⟨rfl,rfl⟩
        ·have re:(op3 !=1)=true:=by simpa using a1
         obtain rfl:z=false:=by rw [CE];simpa using a1
         clear CE;go_wp2;go_meet;exact ⟨rfl,rfl⟩
      ·have xI:(mode1 !=0)=true:=by simpa using a0
       obtain rfl:z=false:=by rw [po];simp [a0]
       clear po;go_wp2;go_meet;exact ⟨rfl,rfl⟩
     ·have yE:(op1 !=4)=true:=by simpa using a4
      obtain rfl:z=false:=by rw [po];simp [a4]
      clear po;go_wp2;go_meet;exact ⟨rfl,rfl⟩
    case rest=>
     obtain ⟨rfl,rfl⟩:=hcut;clear po
     cases z with
     | false=>
      have eE:=HW gi.o rfl (by rw [←EZ.o];rfl) jG.o;have fq:=C eE;clear eE;go_wp2;go_roundw
      case rel=> exact ⟨k + 1,by omega,by go_num,fq.o,aZ.o⟩
      case measure=> simp [intOf];omega
     | true=>
      have hh:op1=4∧mode1=0∧mn1≠aI∧((MRe.al aq).getD 0 .nil).op=1:=by
       have:=P0.o
       rw [←EZ.o] at this
       simpa using this.symm
      obtain ⟨rfl,rfl,Ba,a1⟩:=hh;have oB:0 < aq.length:=by rw [(kB GX.o).hone (by simp)];omega
      have Tc:(0:Int) < (aq.length:Int):=by omega
      obtain ⟨b3,iV,fk,rfl,n7,w8,mI,mJ⟩:=jq.o.kids.head oB;obtain ⟨nR,rh⟩:=oJ w8;have aaP:(k5.ab.kids.getD 0 .nil).set=fk.ab.set:=by
       rw [uH.o]
       show ((MRe.al aq).getD 0 .nil).set=_
       rw [rh];rfl
      obtain ⟨op3,dk,dm,set3,di,dj,kids3,cA,cC,cB,cv,cx⟩:=fk;have tx:(k5.ab.kids.getD 0 .nil).set=set3:=aaP;have mi:=mI.node.c1;have dF:=mJ.nV;have Fy:=iL.o.ch.drop (k + 1) (by omega);obtain ⟨oR,Fp⟩:∃ oR,oR=(if kc=k + 1 then some (⟨b,off,none⟩:Addr) else some ⟨b,off + (k + 1) * 8,none⟩):=⟨_,rfl⟩;obtain ⟨oS,Fq⟩:∃ oS,oS=kc - (k + 1):=⟨_,rfl⟩;have dd:∀ W:World,(Instr.sliceAt 24 (M (some ⟨b,off,none⟩) kids.length kc) (some (H J ((k:Int) + 1))) none none).run Tryz.prog W=.ok (M oR (kids.length - (k + 1)) oS) W:=by
       intro W;have q1:(k:Int) + 1≤kids.length:=by omega
       have q0:(0:Int)≤(k:Int) + 1:=by omega
       have kr:((k:Int) + 1).toNat=k + 1:=by omega
       rw [Fp,Fq]
       by_cases q2:kc=k + 1
       ·simp [go_sem,q1,q0,kr,q2]
       ·simp [go_sem,q1,q0,kr,q2]
      rw [←Fp,←Fq] at Fy;have va:MRe.aK w (.node 2 none 0 [] oR oS (kids.drop (k + 1)) 0 0 0 0 false):=.hR (eK.nil _) ⟨Fy,fun x hx=> iL.o.dy (List.mem_of_mem_drop hx)⟩;have dP:=fun (W:World) (h:I [] w W)=> Ej (.node 2 none 0 [] oR oS (kids.drop (k + 1)) 0 0 0 0 false) W (va.ah h);have kt:=fun (W:World) (h:I [] w W)=> ah4 dk dm set3 (.node 2 none 0 [] oR oS (kids.drop (k + 1)) 0 0 0 0 false) W (va.ah h) (dF.ah h);have hB:fA (MRe.ab (.node 2 none 0 [] oR oS (kids.drop (k + 1)) 0 0 0 0 false))=qP ((MRe.al kids).drop (k + 1)):=by
       rw [MRe.kP,←List.map_drop,←MRe.kP];rfl
      have kV:ow set3 (MRe.ab (.node 2 none 0 [] oR oS (kids.drop (k + 1)) 0 0 0 0 false))=q8 set3 ((MRe.al kids).drop (k + 1)):=by
       rw [MRe.kP,←List.map_drop,←MRe.kP];rfl
      simp only [hB,MRe.val,List.length_drop,List.length_nil] at dP;simp only [kV,MRe.val,List.length_drop,List.length_nil] at kt;obtain ⟨q1,p3⟩:∃ ae,ae=qP ((MRe.al kids).drop (k + 1)):=⟨_,rfl⟩;obtain ⟨q2,rf⟩:∃ ae,ae=q8 set3 ((MRe.al kids).drop (k + 1)):=⟨_,rfl⟩;simp only [←p3] at dP;simp only [←rf] at kt;have HH:(Br k5.ab && (!qP ((MRe.al kids).drop (k + 1)) && !q8 (k5.ab.kids.getD 0 .nil).set ((MRe.al kids).drop (k + 1))))=(!q1 && !q2):=by rw [←EZ.o,tx,←p3,←rf];rfl
      have zp:=C HH;have dP:=C dP;have kt:=C kt;have dI:=(aH.o.trans aZ.o).c mi;have mN:IntKind.i64.wrap ((k:Int) + 1)=(k:Int) + 1:=IntWalk.i64_in _ (by omega);clear tx aaP mi dF Fy Fp Fq va hB kV p3 rf HH rh n7 w8 mI mJ a1 Ba;go_upto_region 8 with fail
      obtain ⟨iv,Fm⟩:∃ iv,iv=aA.heap.size:=⟨_,rfl⟩;obtain ⟨fO,lh⟩:∃ fO,fO=aA.alloc (.cells #[H J 2,M none 0 0,M oR (kids.length - (k + 1)) oS,H J 0,H J 0,H J 0,H J 0,F false] 26):=⟨_,rfl⟩;have lD:I [] aA fO:=by rw [lh];exact I.a1 _ _
      have Km:fO.heap[iv]? =some (.cells #[H J 2,M none 0 0,M oR (kids.length - (k + 1)) oS,H J 0,H J 0,H J 0,H J 0,F false] 26 (0,0)):=by rw [lh,Fm];exact heap_alloc_new aA _
      rw [←lh,←Fm];have k3:=C (aZ.o.trans lD);obtain ⟨gV,ju,iz,nR,jj,ir,vj,vk⟩:=eR Km;have v2:=lD.c p2;have ea:=lD.c dI;obtain ⟨c0,cT,s2,lR,kM,kh,k7,lJ⟩:=lD.au c6 y1 dp eb ef ej ek el;have Mx:=C (lD.h xo.o);clear Fm lh lD Km fQ p1 p2 jh ji lq lr lu c6 y1 dp eb ef ej ek el dI;refine rg (S:=fun w'=> (w'.cell? ⟨iv,0,none⟩=some (H J 2)∧w'.cell? ⟨iv,1,none⟩=some (M none 0 0)∧w'.cell? ⟨iv,2,none⟩=some (M oR (kids.length - (k + 1)) oS)∧w'.cell? ⟨iv,3,none⟩=some (H J 0)∧w'.cell? ⟨iv,4,none⟩=some (H J 0)∧w'.cell? ⟨iv,5,none⟩=some (H J 0)∧w'.cell? ⟨iv,6,none⟩=some (H J 0)∧w'.cell? ⟨iv,7,none⟩=some (F false))∧w'.cell? ⟨dJ,2,none⟩=some (M (some ⟨b3,iV,none⟩) aq.length kc1)∧w'.cell? ⟨b3,iV + 1,none⟩=some (M dk set3.length dm)) (fun _ k=> ⟨(k.au gV ju iz nR jj ir vj vk),k.c v2,k.c ea⟩) fun bM aF=> ?_;refine ag 0 ?_;refine bh 1 fun ai af=> ?_;go_simp
      go_at_call 35
      refine Calls.mono (dP.o _ ((aH.o.trans k3.o).drew)) ?_;rintro e w3 ⟨rfl,aP⟩;have aR:=C (((I.refl [] fO).drew).trans aP);clear aP;refine af.out _ _ (bM.o _ aR.o) fun aF=> ?_;clear af ai;try go_frame
      refine ag 2 ?_;refine ag 3 ?_
      cases q1 with
      | true=>
       refine c9 4 ?_;refine c9 5 ?_;refine c9 6 ?_;refine c9 7 ?_;refine c9 8 ?_;refine c9 9 ?_;refine RC (i:=10) rfl (by kernel_rfl) (by rfl) (by assumption) ?_;try go_frame
       refine c9 11 ?_;refine ag 12 ?_;refine dR ?_;have eE:=HW gi.o rfl (by rw [zp.o];rfl) jG.o;have fq:=C eE;have kl:=C (k3.o.trans aR.o);clear eE gV ju iz nR jj ir vj vk v2 ea c0 cT s2 lR kM kh k7 lJ aF;go_wp2;go_roundw
       case rel=> exact ⟨k + 1,by omega,by go_num,fq.o,kl.o⟩
       case measure=> simp [intOf];omega
      | false=>
       refine ag 4 ?_;refine ag 5 ?_;refine ag 6 ?_;refine ag 7 ?_;refine ag 8 ?_;refine ag 9 ?_;refine bh 10 fun ai af=> ?_;go_simp
       go_at_call 130
       refine Calls.mono (kt.o _ ((aH.o.trans k3.o).trans aR.o)) ?_;rintro e w4 ⟨rfl,bc⟩;have cl:=C (aR.o.trans bc);clear bc;refine af.out _ _ (bM.o _ cl.o) fun aF=> ?_;clear af ai;try go_frame
       refine ag 11 ?_;refine ag 12 ?_;refine dR ?_;have kl:=C (k3.o.trans cl.o);obtain ⟨t0,t1,fu,t3,t4,t5,jm,jn⟩:=cl.o.au c0 cT s2 lR kM kh k7 lJ;have BF:=C (cl.o.h Mx.o);clear gV ju iz nR jj ir vj vk v2 ea c0 cT s2 lR kM kh k7 lJ aF
       cases q2 with
       | true=>
        have eE:=HW gi.o rfl (by rw [zp.o];rfl) jG.o;have fq:=C eE;clear eE t0 t1 fu t3 t4 t5 jm jn;go_wp2;go_roundw
        case rel=> exact ⟨k + 1,by omega,by go_num,fq.o,kl.o⟩
        case measure=> simp [intOf];omega
       | false=>
        have oA:=aap gi.o (by rw [zp.o];rfl) jG.o;have aD:=C (show p0 (.node 2 set (MRe.al kids) mn mx mode n neg)=some (hF 2 (MRe.al kids) k (k + 1) [tY k5.ab]) by rw [jr.o,oA,Option.map_some,Jd.o]);obtain ⟨fQ,p1,p2,jh,ji,lq,lr,lu⟩:=eR BF.o;have wj:=h6 BF.o;clear oA;go_upto_region 10 with fail
        obtain ⟨ak,cY⟩:∃ ak,ak=w4.setCell ⟨dJ,5,none⟩ (H J 2):=⟨_,rfl⟩;have dh:I [dJ] w4 ak:=by rw [cY];exact (I.refl [dJ] w4).setCell (p:=⟨dJ,5,none⟩) (.inl (by simp)) _
        have zS:ak.heap[dJ]? =some (bf 4 aM set1 aN (some ⟨b3,iV,none⟩) aq kc1 mn1 aI 2 n1 aL):=by rw [cY];exact heap_setCell_same _ dJ 5 _ _ _ BF.o
        rw [←cY];obtain ⟨a0,a1,a2,a3,a4,a5,dM,dO⟩:=eR zS;have ar:=dh.cell t0 (by simp;omega);have c1:=dh.cell t1 (by simp;omega);have c2:=dh.cell fu (by simp;omega);have an:=dh.cell t3 (by simp;omega);have av:=dh.cell t4 (by simp;omega);have ay:=dh.cell t5 (by simp;omega);have ax:=dh.cell jm (by simp;omega);have az:=dh.cell jn (by simp;omega);have GV:=C Hy;have Ky:I [] aE ak:=(kl.o).cn dh (by intro x hx;simp at hx;subst hx;exact .inr QP.o);have dG:=C Ky;have iH:=I.a1 ak (bf 4 aM set1 aN (some ⟨b3,iV,none⟩) aq kc1 mn1 aI 2 n1 aL);have eS:=C iH;have lP:gT (ak.alloc (bf 4 aM set1 aN (some ⟨b3,iV,none⟩) aq kc1 mn1 aI 2 n1 aL)) (some ⟨ak.heap.size,0,none⟩) 1 [(.node 4 aM aN set1 (some ⟨b3,iV,none⟩) kc1 aq mn1 aI 2 n1 aL)]:=by
         refine ⟨hH.kq (kids:=[(.node 4 aM aN set1 (some ⟨b3,iV,none⟩) kc1 aq mn1 aI 2 n1 aL)]) (heap_alloc_new ak _) rfl (by simp [maxLen]),fun x hx=> ?_⟩;simp only [List.mem_cons,List.not_mem_nil,or_false] at hx;subst hx;exact .hR (jq.o.nV.ah ((aH.o.trans dG.o).trans iH)) (jq.o.kids.ah ((aH.o.trans dG.o).trans iH))
        have hs:=eX.o _ ((aH.o.trans dG.o).trans iH) k (some ⟨ak.heap.size,0,none⟩) (.node 4 aM aN set1 (some ⟨b3,iV,none⟩) kc1 aq mn1 aI 2 n1 aL) lP (by omega) (by show k + 1≤kids.length;omega) (by show 0 < kids.length;omega) (by show kids.length + 1≤1000000;omega);rw [show ((k + 1:Nat):Int)=(k:Int) + 1 by omega,List.length_singleton] at hs;have cW:=C hs;clear hs lP iH Ky cY dh zS t0 t1 fu t3 t4 t5 jm jn fQ p1 p2 jh ji lq lr lu wj;go_wp2_with fail
        refine Calls.mono cW.o ?_;rintro e fN ⟨ae,rfl,a7,aT,cU,hqf⟩;have gu:=C (dG.o.trans (eS.o.trans cU));have dK:=C a7;have dA:=C aT;have et:=C hqf;obtain ⟨q0,bN⟩:∃ q0,q0=ae:=⟨_,rfl⟩;rw [←bN] at dK dA et;have dt:=C bN;clear a7 aT cU hqf bN a0 a1 a2 a3 a4 a5 dM dO ar c1 c2 an av ay ax az;obtain ⟨bA,bB,bC,bD,bs,bt,bu,bo,bx,bw,bp,bz⟩:=ae;simp only [MRe.val];obtain ⟨z0,z1,z2,z3,z4,z5,b9,cc,cj⟩:=ew (gu.o.h ba.o);go_wp2;have hfr:du (U + 2) (MRe.node 2 sa sc set (some ⟨b,off,none⟩) kc kids mn mx mode n neg).aw (.node bA bB bC bD bs bt bu bo bx bw bp bz:MRe).aw:=by
         rw [←dt.o];intro x hx
         rcases et.o x hx with h | h
         ·rcases List.mem_append.1 h with h | h
          ·exact .inl h
          ·refine .inl (kS.o x ?_);simp only [MRe.dN,List.append_nil] at h;exact h
         ·exact .inr (Nat.le_trans hC.o (Nat.le_trans (dG.o.trans eS.o).size h))
        obtain ⟨aY,cm,fy,gB⟩:=nd aB.o aH.o gu.o ba.o (by rw [←dt.o];exact dA.o) hfr eU.o;refine rt aY ?_;exact dc.iI (.node bA bB bC bD bs bt bu bo bx bw bp bz) (by rw [aD.o,←dt.o,dK.o,uH.o];rfl) rfl cm fy gB
   ·obtain rfl:k=kids.length:=by omega
    have h0:oZ (MRe.al kids)=none:=by rw [←jG.o,List.drop_of_length_le (by rw [MRe.ee];omega)];rfl
    have aD:=C (show p0 (.node 2 set (MRe.al kids) mn mx mode n neg)=none by rw [jr.o,h0];rfl);clear h0;obtain ⟨z0,z1,z2,z3,z4,z5,b9,cc,cj,cw,bQ⟩:=gR aB.o aH.o cX.o ba.o;go_wp2;refine rt cw.o ?_;exact dc.dL aD.o rfl bQ.o
 ·have Fl:(op !=2)=true:=by simpa using h2
  have aD:=C (show p0 (.node op set (MRe.al kids) mn mx mode n neg)=none by rw [p0,if_neg h2]);obtain ⟨ar,c1,c2,an,av,ay,ax,az⟩:=bI.o.ez;go_enter Tryz.func89,Tryz.ntmps89
  go_upto_region 1 with fail
  rw [←c7.o,←aB.o];obtain ⟨z0,z1,z2,z3,z4,z5,b9,cc,cj,cw,bQ⟩:=gR aB.o aH.o hj.o ba.o;go_wp2;refine rt cw.o ?_;exact dc.dL aD.o rfl bQ.o
theorem dc.any {w:World} {src:List Nat} {o:Option Tree} {e:Ending} {w':World} (h:dc w src o e w'):∃ r:MRe,e=.returned (.tuple #[r.val,F o.isSome])∧r.ab=o.getD Tree.nil∧r.aK w'∧I [] w w'∧du w.heap.size src r.aw:=by
 cases o with
 | none=> exact ⟨MRe.nil,h.1,rfl,MRe.aK.nil _,h.2,by intro b ad;simp [MRe.nil,MRe.aw,MRe.dN,df] at ad⟩
 | some t=>
  obtain ⟨r,he,ht,ds,hk,hf⟩:=h;exact ⟨r,he,ht,ds,hk,hf⟩
def Mq (w:World) (src:List Nat) (o:Option Tree) (e:Ending) (w':World):Prop:=∃ r:MRe,e=.returned (.tuple #[r.val,F o.isSome])∧r.ab=o.getD Tree.nil∧r.aK w'∧I [] w w'∧du w.heap.size src r.aw
def U9 (w:World) (o:Option Tree) (e:Ending) (w':World):Prop:=
 ∃ r:MRe,e=.returned (.tuple #[r.val,F o.isSome])∧r.ab=o.getD Tree.nil∧r.aK w'∧I [] w w'∧lV w.heap.size r.aw
theorem cell_of_row {w:World} {g T:Nat} {v:Value} (h:w.heap[g]? =some (.cells #[v] T (0,0))):w.cell? ⟨g,0,none⟩=some v:=by
 simp [World.cell?,h]
end Go.Proofs.YtjnlkjlbejelgaaGreat
