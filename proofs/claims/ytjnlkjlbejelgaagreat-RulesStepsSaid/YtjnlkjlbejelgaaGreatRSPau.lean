/- Part of the proof. No condition: every lemma says its own. -/
import Derived.Test.YtjnlkjlbejelgaaGreatRSPat
namespace Go.Proofs.YtjnlkjlbejelgaaGreat
open Go.RowKit
open Go.Value renaming int→H,slice→M,bool→F
open Go.IntKind renaming i64→J
set_option maxRecDepth 100000
set_option maxHeartbeats 16000000
theorem ID {d bd:Nat} (xA:∀ uR,d=uR + 1→zF uR bd) (dB:d≤100) (lC:3≤bd):zF d (1 + 3 * bd):=by
 intro w g cS dH bR uses lf h kH ts;have HM:=C h;have xt:=C (And.intro kH ts);have Dd:=C xA;have vv:=C h.lt;clear xA kH ts;obtain ⟨U,cd⟩:∃ U,U=w.heap.size:=⟨_,rfl⟩;obtain ⟨aE,cz⟩:∃ aE:World,aE=w.alloc cO:=⟨_,rfl⟩;have cq:I [] w aE:=by rw [cz];exact I.a1 _ _
 have aW:aE.heap[U]? =some cO:=by rw [cz,cd];exact heap_alloc_new w _
 have FJ:=h.ah cq;obtain ⟨at0,cp,h0,h1,aO⟩:=FJ.row;obtain ⟨ar,c1,c2,an,av,fh⟩:=vm aO;have hC:=C (show U + 1≤aE.heap.size by rw [cz,cd];simp);have aB:=C cd;have c7:=C cz;have aH:=C cq;have ba:=C aW;have aD:=C aO;have BP:=C FJ;have tJ:=C (And.intro h0 h1);have kt:=C (show U≠g by have:=h.lt;omega);clear h cd cz cq aW FJ aO h0 h1;go_enter Tryz.func73,Tryz.ntmps73
 go_upto_region 1 with fail
 rw [←c7.o,←aB.o];go_upto_region 2 with fail
 obtain ⟨a1,re⟩:∃ a1,a1=wrap64 (lf - 1):=⟨_,rfl⟩;have ke:=C (show a1=lf - 1 by rw [re];exact IntWalk.wrap64_in (lf - 1) (by have:=xt.o;omega));rw [←re];obtain ⟨ak,cY⟩:∃ ak,ak=aE.setCell ⟨g,3,none⟩ (H J a1):=⟨_,rfl⟩;rw [←cY];have dh:I [g] aE ak:=by rw [cY];exact (I.refl [g] aE).setCell (p:=⟨g,3,none⟩) (.inl (by simp)) _
 have D2:ak.heap[g]? =some (.cells #[M cS bR.length dH,H J at0,H J uses,H J a1,H J cp] 99 (0,0)):=by rw [cY];exact heap_setCell_same _ g 3 _ _ _ aD.o
 have tM:=C (BP.o.put dh tJ.o.1 tJ.o.2 D2);have ma:=C dh;clear cY dh D2 re ar c1 c2 an av fh;go_wp2_with fail
 refine Calls.mono (wb tM.o 20 (by omega)) ?_;rintro e w2 ⟨k,je,aqE,rfl,qD,hk2,_⟩;have tL:=C qD;have bQ:=C (ma.o.trans hk2);clear qD hk2;go_upto_region 3 with fail
 go_cut [38] (fun anC db=> ∃ b:Bool,anC=F b∧(d=0→b=true)∧(b=false→3≤a1)∧I [] w2 db)
 case first=>
  obtain ⟨vL,qy,xG,sh,gL⟩:=tL.o.row;obtain ⟨ar,c1,c2,an,av,fh⟩:=vm gL;clear gL
  by_cases NW:d=0
  ·subst NW
   go_quiet (fail)
   go_wp2;go_meet;exact ⟨true,rfl,fun _=> rfl,(fun h=> by cases h),(I.refl [] w2).drewN _⟩
  ·have aqn:((d:Int)==0)=false:=by simpa using NW
   by_cases hl:a1 < 3
   ·go_quiet (fail)
    go_wp2;go_meet;exact ⟨true,rfl,fun _=> rfl,(fun h=> by cases h),(I.refl [] w2).drewN _⟩
   ·by_cases b8:(bR.length:Int) < vL
    ·go_quiet (fail)
     go_wp2;go_meet;exact ⟨true,rfl,fun _=> rfl,(fun h=> by cases h),(I.refl [] w2).drewN _⟩
    ·go_quiet (fail)
     go_wp2;go_meet;exact ⟨false,rfl,fun h=> absurd h NW,fun _=> by omega,(I.refl [] w2).drewN _⟩
 case rest=>
 obtain ⟨b,rfl,qA,xJ,jI⟩:=hcut;have GP:=C xJ;have lx:=C (tL.o.ah jI);have iX:=C (bQ.o.trans (jI.mono (S':=[g]) (by simp)));have pP:=C qA;clear jI qA xJ;obtain ⟨w3,vd⟩:∃ w3,w3=wc:=⟨_,rfl⟩;rw [←vd] at lx iX ⊢;clear vd;have ku:=C (iX.o.heap ba.o (by simp;exact kt.o));have qX:=C ((aH.o.mono (S':=[g]) (by simp)).trans iX.o)
 cases b with
 | true=>
  by_cases hk:k=0
  ·subst hk;have fl:=ku.o;obtain ⟨z0,z1,z2,z3,z4,z5,b9,cc,cj⟩:=ew fl;obtain ⟨aY,gm⟩:=Dy (bd:=bd) (op:=0) (n:=0) (neg:=false) (ka:=none) (kc:=0) (kids:=([]:List MRe)) (P:=Left lf d) (Uf ke.o) HM.o lx.o qX.o aB.o fl (gT.nil _) (by simp [df,MRe.dN]) (by constructor <;> first | omega | (intro h;omega) | simp) (by simp) (by simp) (by simp);have eo:=C aY;have ey:=C gm;clear aY gm fl;go_wp2;refine mA eo.o ?_;exact ey.o
  ·have xQ:(k==0)=false:=by simpa using hk
   go_wp2_with fail
   refine Calls.mono (zf lx.o) ?_;rintro e eB ⟨s,nO,rfl,gp,ij,h8,jJ,gY,ig,dF⟩;replace dF:=uI.so (d:=d) ke.o dF;have fp:=C dF;have fx:=C gp;have jx:=C ij;have nn:=C (qX.o.trans h8);have iY:=C (show ∀ b∈s.aw,w.heap.size≤b∧b≠U from fun b ad=> by
    have h1:=jJ b ad;have h2:=lt_of_block ku.o;have h3:=aB.o
    omega)
   have eX:=C gY;have hL:=C ig;have fl:=h8.heap ku.o (by simp;exact kt.o);obtain ⟨c0,gh⟩:∃ c0,c0=s:=⟨_,rfl⟩;rw [←gh] at fx iY eX hL fp;have fg:=C gh;obtain ⟨op3,dk,dm,set3,di,dj,kids3,cA,cC,cB,cv,cx⟩:=s;simp only [MRe.val];obtain ⟨z0,z1,z2,z3,z4,z5,b9,cc,cj⟩:=ew fl;obtain ⟨aY,cm,hm,hk,hfr⟩:=tq HM.o jx.o nn.o (Nat.le_of_eq aB.o.symm) fl (by have:=fx.o;rw [fg.o] at this;exact this) (by have:=iY.o;rw [fg.o] at this;exact this);have eo:=C aY;have ey:=C cm;have fS:=C hm;have fT:=C hk;have mU:=C hfr;clear aY cm hm hk hfr fl gp ij h8 jJ gY ig gh dF;go_wp2;refine mA eo.o ?_;exact ⟨_,nO,rfl,ey.o,fS.o,fT.o,mU.o,by have:=eX.o;rw [fg.o] at this;exact this,by have:=hL.o;rw [fg.o] at this;exact Nat.le_trans this (by omega),by have:=fp.o;rw [fg.o] at this;exact this⟩
 | false=>
  have yh:=C (GP.o rfl);obtain ⟨d1,rfl⟩:∃ d1,d=d1 + 1:=⟨d - 1,by
   have h:=pP.o
   cases d with
   | zero=> cases h rfl
   | succ n=> omega⟩
  have pR:=C (Dd.o d1 rfl);have oX:d1≤100:=by omega
  rw [show ((d1 + 1:Nat):Int)=(d1:Int) + 1 by omega];clear Dd pP
  by_cases kK:k < 5
  ·go_wp2_with fail
   refine Calls.mono (abE pR.o oX lx.o (yh.o) (by have:=xt.o;have:=ke.o;omega)) ?_;rintro e eB ⟨a,c,ks,nO,rfl,m6,Bn,xR,hm,hk,b8,hks,gQ,gn,kW⟩;have BS:=C (And.intro gQ (And.intro gn kW));obtain ⟨ka,fw⟩:∃ ka:Option Addr,ka=a.map fun x=> ⟨x,0,none⟩:=⟨_,rfl⟩;simp only [adL];rw [←fw] at xR ⊢;have AX:=C xR;have Qi:=C hm;have BK:=C (qX.o.trans hk);have fl:=hk.heap ku.o (by simp;exact kt.o);have iP:=C (show ∀ b∈df ks.length ka ++ MRe.dN ks,U < b from fun b ad=> by
    have h2:=lt_of_block ku.o
    rcases List.mem_append.1 ad with h | h
    ·rw [fw] at h
     have:=(lV.zJ b8) b h
     omega
    ·obtain ⟨y,hy,o0⟩:=MRe.tm h
     have:=(hks y hy).2.2 b o0
     omega)
   have fZ:=C hks;have C7:=C m6;have MD:=C Bn;clear xR hm hk b8 hks fw m6 Bn gQ gn kW;obtain ⟨z0,z1,z2,z3,z4,z5,b9,cc,cj⟩:=ew fl;obtain ⟨aY,gm⟩:=Dy (bd:=bd) (op:=2) (n:=0) (neg:=false) (ka:=ka) (kc:=c) (kids:=ks) (P:=Left lf (d1 + 1)) (tR.so ke.o (abC BS.o.1 BS.o.2.1 BS.o.2.2)) HM.o Qi.o BK.o aB.o fl AX.o iP.o (by have:=C7.o;constructor <;> first | omega | (intro h;omega) | simp) (fun x hx=> (fZ.o x hx).1) (fun x hx=> (fZ.o x hx).2.1) MD.o;have eo:=C aY;have ey:=C gm;clear aY gm fl;go_wp2;refine mA eo.o ?_;exact ey.o
  ·by_cases pa:k < 8
   ·go_wp2_with fail
    refine Calls.mono (abE pR.o oX lx.o (yh.o) (by have:=xt.o;have:=ke.o;omega)) ?_;rintro e eB ⟨a,c,ks,nO,rfl,m6,Bn,xR,hm,hk,b8,hks,gQ,gn,kW⟩;have BS:=C (And.intro gQ (And.intro gn kW));obtain ⟨ka,fw⟩:∃ ka:Option Addr,ka=a.map fun x=> ⟨x,0,none⟩:=⟨_,rfl⟩;simp only [adL];rw [←fw] at xR ⊢;have AX:=C xR;have Qi:=C hm;have BK:=C (qX.o.trans hk);have fl:=hk.heap ku.o (by simp;exact kt.o);have iP:=C (show ∀ b∈df ks.length ka ++ MRe.dN ks,U < b from fun b ad=> by
     have h2:=lt_of_block ku.o
     rcases List.mem_append.1 ad with h | h
     ·rw [fw] at h
      have:=(lV.zJ b8) b h
      omega
     ·obtain ⟨y,hy,o0⟩:=MRe.tm h
      have:=(hks y hy).2.2 b o0
      omega)
    have fZ:=C hks;have C7:=C m6;have MD:=C Bn;clear xR hm hk b8 hks fw m6 Bn gQ gn kW;obtain ⟨z0,z1,z2,z3,z4,z5,b9,cc,cj⟩:=ew fl;obtain ⟨aY,gm⟩:=Dy (bd:=bd) (op:=3) (n:=0) (neg:=false) (ka:=ka) (kc:=c) (kids:=ks) (P:=Left lf (d1 + 1)) (tR.so ke.o (abC BS.o.1 BS.o.2.1 BS.o.2.2)) HM.o Qi.o BK.o aB.o fl AX.o iP.o (by have:=C7.o;constructor <;> first | omega | (intro h;omega) | simp) (fun x hx=> (fZ.o x hx).1) (fun x hx=> (fZ.o x hx).2.1) MD.o;have eo:=C aY;have ey:=C gm;clear aY gm fl;go_wp2;refine mA eo.o ?_;exact ey.o
   ·by_cases q12:k < 12
    ·go_wp2_with fail
     refine Calls.mono (am2 pR.o oX lC lx.o (yh.o) (by have:=xt.o;have:=ke.o;omega)) ?_;rintro e eB ⟨s,nO,rfl,gp,ij,h8,jJ,gY,ig,dF⟩;replace dF:=tR.so ke.o dF;have fp:=C dF;have fx:=C gp;have jx:=C ij;have nn:=C (qX.o.trans h8);have iY:=C (show ∀ b∈s.aw,w.heap.size≤b∧b≠U from fun b ad=> by
      have h1:=jJ b ad;have h2:=lt_of_block ku.o;have h3:=aB.o
      omega)
     have eX:=C gY;have hL:=C ig;have fl:=h8.heap ku.o (by simp;exact kt.o);obtain ⟨c0,gh⟩:∃ c0,c0=s:=⟨_,rfl⟩;rw [←gh] at fx iY eX hL fp;have fg:=C gh;obtain ⟨op3,dk,dm,set3,di,dj,kids3,cA,cC,cB,cv,cx⟩:=s;simp only [MRe.val];obtain ⟨z0,z1,z2,z3,z4,z5,b9,cc,cj⟩:=ew fl;obtain ⟨aY,cm,hm,hk,hfr⟩:=tq HM.o jx.o nn.o (Nat.le_of_eq aB.o.symm) fl (by have:=fx.o;rw [fg.o] at this;exact this) (by have:=iY.o;rw [fg.o] at this;exact this);have eo:=C aY;have ey:=C cm;have fS:=C hm;have fT:=C hk;have mU:=C hfr;clear aY cm hm hk hfr fl gp ij h8 jJ gY ig gh dF;go_wp2;refine mA eo.o ?_;exact ⟨_,nO,rfl,ey.o,fS.o,fT.o,mU.o,by have:=eX.o;rw [fg.o] at this;exact this,by have:=hL.o;rw [fg.o] at this;exact Nat.le_trans this (by omega),by have:=fp.o;rw [fg.o] at this;exact this⟩
    ·obtain rfl | rfl | rfl | rfl | rfl | rfl | rfl | rfl:k=12∨k=13∨k=14∨k=15∨k=16∨k=17∨k=18∨k=19:=by omega
     ·obtain ⟨vL,qy,xG,sh,gL⟩:=lx.o.row;obtain ⟨ar,c1,c2,an,av,fh⟩:=vm gL;clear gL
      by_cases cy:0 < bits BinOp.and IntKind.i64 uses 64
      ·go_wp2_with fail
       refine Calls.mono (Xr pR.o oX lx.o (yh.o) (by have:=xt.o;have:=ke.o;omega)) ?_;rintro e eB ⟨s,nO,rfl,gp,ij,h8,jJ,gY,ig,dF⟩;replace dF:=tR.so ke.o dF;have fp:=C dF;have fx:=C gp;have jx:=C ij;have nn:=C (qX.o.trans h8);have iY:=C (show ∀ b∈s.aw,w.heap.size≤b∧b≠U from fun b ad=> by
        have h1:=jJ b ad;have h2:=lt_of_block ku.o;have h3:=aB.o
        omega)
       have eX:=C gY;have hL:=C ig;have fl:=h8.heap ku.o (by simp;exact kt.o);obtain ⟨c0,gh⟩:∃ c0,c0=s:=⟨_,rfl⟩;rw [←gh] at fx iY eX hL fp;have fg:=C gh;obtain ⟨op3,dk,dm,set3,di,dj,kids3,cA,cC,cB,cv,cx⟩:=s;simp only [MRe.val];obtain ⟨z0,z1,z2,z3,z4,z5,b9,cc,cj⟩:=ew fl;obtain ⟨aY,cm,hm,hk,hfr⟩:=tq HM.o jx.o nn.o (Nat.le_of_eq aB.o.symm) fl (by have:=fx.o;rw [fg.o] at this;exact this) (by have:=iY.o;rw [fg.o] at this;exact this);have eo:=C aY;have ey:=C cm;have fS:=C hm;have fT:=C hk;have mU:=C hfr;clear aY cm hm hk hfr fl gp ij h8 jJ gY ig gh dF;go_wp2;refine mA eo.o ?_;exact ⟨_,nO,rfl,ey.o,fS.o,fT.o,mU.o,by have:=eX.o;rw [fg.o] at this;exact this,by have:=hL.o;rw [fg.o] at this;exact Nat.le_trans this (by omega),by have:=fp.o;rw [fg.o] at this;exact this⟩
      ·go_wp2_with fail
       refine Calls.mono (zf lx.o) ?_;rintro e eB ⟨s,nO,rfl,gp,ij,h8,jJ,gY,ig,dF⟩;replace dF:=uI.so (d:=(d1 + 1)) ke.o dF;have fp:=C dF;have fx:=C gp;have jx:=C ij;have nn:=C (qX.o.trans h8);have iY:=C (show ∀ b∈s.aw,w.heap.size≤b∧b≠U from fun b ad=> by
        have h1:=jJ b ad;have h2:=lt_of_block ku.o;have h3:=aB.o
        omega)
       have eX:=C gY;have hL:=C ig;have fl:=h8.heap ku.o (by simp;exact kt.o);obtain ⟨c0,gh⟩:∃ c0,c0=s:=⟨_,rfl⟩;rw [←gh] at fx iY eX hL fp;have fg:=C gh;obtain ⟨op3,dk,dm,set3,di,dj,kids3,cA,cC,cB,cv,cx⟩:=s;simp only [MRe.val];obtain ⟨z0,z1,z2,z3,z4,z5,b9,cc,cj⟩:=ew fl;obtain ⟨aY,cm,hm,hk,hfr⟩:=tq HM.o jx.o nn.o (Nat.le_of_eq aB.o.symm) fl (by have:=fx.o;rw [fg.o] at this;exact this) (by have:=iY.o;rw [fg.o] at this;exact this);have eo:=C aY;have ey:=C cm;have fS:=C hm;have fT:=C hk;have mU:=C hfr;clear aY cm hm hk hfr fl gp ij h8 jJ gY ig gh dF;go_wp2;refine mA eo.o ?_;exact ⟨_,nO,rfl,ey.o,fS.o,fT.o,mU.o,by have:=eX.o;rw [fg.o] at this;exact this,by have:=hL.o;rw [fg.o] at this;exact Nat.le_trans this (by omega),by have:=fp.o;rw [fg.o] at this;exact this⟩
     ·obtain ⟨vL,qy,xG,sh,gL⟩:=lx.o.row;obtain ⟨ar,c1,c2,an,av,fh⟩:=vm gL;clear gL
      by_cases cy:0 < bits BinOp.and IntKind.i64 uses 64
      ·go_wp2_with fail
       refine Calls.mono (Xr pR.o oX lx.o (yh.o) (by have:=xt.o;have:=ke.o;omega)) ?_;rintro e eB ⟨s,nO,rfl,gp,ij,h8,jJ,gY,ig,dF⟩;replace dF:=tR.so ke.o dF;have fp:=C dF;have fx:=C gp;have jx:=C ij;have nn:=C (qX.o.trans h8);have iY:=C (show ∀ b∈s.aw,w.heap.size≤b∧b≠U from fun b ad=> by
        have h1:=jJ b ad;have h2:=lt_of_block ku.o;have h3:=aB.o
        omega)
       have eX:=C gY;have hL:=C ig;have fl:=h8.heap ku.o (by simp;exact kt.o);obtain ⟨c0,gh⟩:∃ c0,c0=s:=⟨_,rfl⟩;rw [←gh] at fx iY eX hL fp;have fg:=C gh;obtain ⟨op3,dk,dm,set3,di,dj,kids3,cA,cC,cB,cv,cx⟩:=s;simp only [MRe.val];obtain ⟨z0,z1,z2,z3,z4,z5,b9,cc,cj⟩:=ew fl;obtain ⟨aY,cm,hm,hk,hfr⟩:=tq HM.o jx.o nn.o (Nat.le_of_eq aB.o.symm) fl (by have:=fx.o;rw [fg.o] at this;exact this) (by have:=iY.o;rw [fg.o] at this;exact this);have eo:=C aY;have ey:=C cm;have fS:=C hm;have fT:=C hk;have mU:=C hfr;clear aY cm hm hk hfr fl gp ij h8 jJ gY ig gh dF;go_wp2;refine mA eo.o ?_;exact ⟨_,nO,rfl,ey.o,fS.o,fT.o,mU.o,by have:=eX.o;rw [fg.o] at this;exact this,by have:=hL.o;rw [fg.o] at this;exact Nat.le_trans this (by omega),by have:=fp.o;rw [fg.o] at this;exact this⟩
      ·go_wp2_with fail
       refine Calls.mono (zf lx.o) ?_;rintro e eB ⟨s,nO,rfl,gp,ij,h8,jJ,gY,ig,dF⟩;replace dF:=uI.so (d:=(d1 + 1)) ke.o dF;have fp:=C dF;have fx:=C gp;have jx:=C ij;have nn:=C (qX.o.trans h8);have iY:=C (show ∀ b∈s.aw,w.heap.size≤b∧b≠U from fun b ad=> by
        have h1:=jJ b ad;have h2:=lt_of_block ku.o;have h3:=aB.o
        omega)
       have eX:=C gY;have hL:=C ig;have fl:=h8.heap ku.o (by simp;exact kt.o);obtain ⟨c0,gh⟩:∃ c0,c0=s:=⟨_,rfl⟩;rw [←gh] at fx iY eX hL fp;have fg:=C gh;obtain ⟨op3,dk,dm,set3,di,dj,kids3,cA,cC,cB,cv,cx⟩:=s;simp only [MRe.val];obtain ⟨z0,z1,z2,z3,z4,z5,b9,cc,cj⟩:=ew fl;obtain ⟨aY,cm,hm,hk,hfr⟩:=tq HM.o jx.o nn.o (Nat.le_of_eq aB.o.symm) fl (by have:=fx.o;rw [fg.o] at this;exact this) (by have:=iY.o;rw [fg.o] at this;exact this);have eo:=C aY;have ey:=C cm;have fS:=C hm;have fT:=C hk;have mU:=C hfr;clear aY cm hm hk hfr fl gp ij h8 jJ gY ig gh dF;go_wp2;refine mA eo.o ?_;exact ⟨_,nO,rfl,ey.o,fS.o,fT.o,mU.o,by have:=eX.o;rw [fg.o] at this;exact this,by have:=hL.o;rw [fg.o] at this;exact Nat.le_trans this (by omega),by have:=fp.o;rw [fg.o] at this;exact this⟩
     ·obtain ⟨vL,qy,xG,sh,gL⟩:=lx.o.row;obtain ⟨ar,c1,c2,an,av,fh⟩:=vm gL;clear gL
      by_cases cy:0 < bits BinOp.and IntKind.i64 uses 16
      ·go_wp2_with fail
       refine Calls.mono (wb lx.o 6 (by omega)) ?_;rintro e w4 ⟨x,eD,mi,rfl,w9,bc,sl⟩;have BN:=C w9;have uF:=C (qX.o.trans bc);have zs:=C (bc.heap ku.o (by simp;exact kt.o));clear w9 bc sl;have fl:=zs.o;obtain ⟨z0,z1,z2,z3,z4,z5,b9,cc,cj⟩:=ew fl;obtain ⟨aY,gm⟩:=Dy (bd:=bd) (op:=11) (n:=x) (neg:=false) (ka:=none) (kc:=0) (kids:=([]:List MRe)) (P:=Left lf (d1 + 1)) (Uf ke.o) HM.o BN.o uF.o aB.o fl (gT.nil _) (by simp [df,MRe.dN]) (by show r5 _ [] 0 0 0 0 _ _;constructor <;> first | omega | (intro h;omega) | simp) (by simp) (by simp) (by simp);have eo:=C aY;have ey:=C gm;clear aY gm fl;go_wp2;refine mA eo.o ?_;exact ey.o
      ·go_wp2_with fail
       refine Calls.mono (zf lx.o) ?_;rintro e eB ⟨s,nO,rfl,gp,ij,h8,jJ,gY,ig,dF⟩;replace dF:=uI.so (d:=(d1 + 1)) ke.o dF;have fp:=C dF;have fx:=C gp;have jx:=C ij;have nn:=C (qX.o.trans h8);have iY:=C (show ∀ b∈s.aw,w.heap.size≤b∧b≠U from fun b ad=> by
        have h1:=jJ b ad;have h2:=lt_of_block ku.o;have h3:=aB.o
        omega)
       have eX:=C gY;have hL:=C ig;have fl:=h8.heap ku.o (by simp;exact kt.o);obtain ⟨c0,gh⟩:∃ c0,c0=s:=⟨_,rfl⟩;rw [←gh] at fx iY eX hL fp;have fg:=C gh;obtain ⟨op3,dk,dm,set3,di,dj,kids3,cA,cC,cB,cv,cx⟩:=s;simp only [MRe.val];obtain ⟨z0,z1,z2,z3,z4,z5,b9,cc,cj⟩:=ew fl;obtain ⟨aY,cm,hm,hk,hfr⟩:=tq HM.o jx.o nn.o (Nat.le_of_eq aB.o.symm) fl (by have:=fx.o;rw [fg.o] at this;exact this) (by have:=iY.o;rw [fg.o] at this;exact this);have eo:=C aY;have ey:=C cm;have fS:=C hm;have fT:=C hk;have mU:=C hfr;clear aY cm hm hk hfr fl gp ij h8 jJ gY ig gh dF;go_wp2;refine mA eo.o ?_;exact ⟨_,nO,rfl,ey.o,fS.o,fT.o,mU.o,by have:=eX.o;rw [fg.o] at this;exact this,by have:=hL.o;rw [fg.o] at this;exact Nat.le_trans this (by omega),by have:=fp.o;rw [fg.o] at this;exact this⟩
     ·obtain ⟨vL,qy,xG,sh,gL⟩:=lx.o.row;obtain ⟨ar,c1,c2,an,av,fh⟩:=vm gL;clear gL
      by_cases cy:0 < bits BinOp.and IntKind.i64 uses 4
      ·go_wp2_with fail
       refine Calls.mono (wb lx.o 3 (by omega)) ?_;rintro e w4 ⟨x,dv,dI,rfl,w9,bc,sl⟩;have BN:=C w9;have uF:=C (qX.o.trans bc);have zs:=C (bc.heap ku.o (by simp;exact kt.o));clear w9 bc sl;obtain ⟨ae,hq⟩:∃ ae:Bool,(x==0)=ae:=⟨_,rfl⟩;go_wp2_with fail
       refine Calls.mono (wb BN.o 2 (by omega)) ?_;rintro e fN ⟨y,c6,y1,rfl,w9,bc,sl⟩;have Qh:=C w9;have EM:=C (uF.o.trans bc);have JA:=C (bc.heap zs.o (by simp;exact kt.o));clear w9 bc sl;go_wp2_with fail
       refine Calls.mono (pR.o _ g cS dH bR uses a1 Qh.o (by have:=xt.o;have:=ke.o;have:=yh.o;omega) (by have:=xt.o;have:=ke.o;omega)) ?_;rintro e bS ⟨ja,x1,rfl,hW,uc,hk5,hf5,na,DH,D0⟩;have sD:=C D0;have qY:=C hW;have wC:=C uc;have sB:=C (EM.o.trans hk5);have qj:=C (show ∀ b∈ja.aw,U < b from fun b ad=> by have:=hf5 b ad;have:=lt_of_block JA.o;omega);have qs:=C na;have mV:=C DH;have lz:=C (hk5.heap JA.o (by simp;exact kt.o));obtain ⟨bW,cQ⟩:∃ bW,bW=ja:=⟨_,rfl⟩;rw [←cQ] at qY qj qs mV sD;have jo:=C cQ;obtain ⟨op2,cg,cf,bj,ct,kc2,a8,mn2,bY,bX,bn,bZ⟩:=ja;simp only [MRe.val];clear hW uc hk5 hf5 na DH cQ D0;have fl:=(I.a1 bS (bf op2 cg bj cf ct a8 kc2 mn2 bY bX bn bZ)).h lz.o;obtain ⟨z0,z1,z2,z3,z4,z5,b9,cc,cj⟩:=ew fl;obtain ⟨aY,gm⟩:=Dy (bd:=bd) (op:=7 + y) (n:=0) (neg:=ae) (ka:=some ⟨bS.heap.size,0,none⟩) (kc:=1) (kids:=[bW]) (P:=Left lf (d1 + 1)) (tR.so ke.o (O0 (yh.o) sD.o)) HM.o (wC.o.ah (I.a1 bS (bf op2 cg bj cf ct a8 kc2 mn2 bY bX bn bZ))) (sB.o.alloc _) aB.o fl (Ui qY.o _ (by rw [jo.o];rfl)) (fun b ad=> by
        rcases List.mem_append.1 ad with h | h
        ·simp [df] at h;subst h;exact lt_of_block lz.o
        ·simp only [MRe.dN,List.mem_append,List.not_mem_nil,or_false] at h;exact qj.o b h) (by show r5 _ [] 1 0 0 0 _ _;constructor <;> first | omega | (intro h;omega) | simp) (fun x hx=> by simp only [List.mem_cons,List.not_mem_nil,or_false] at hx;subst hx;exact qs.o) (fun x hx=> by simp only [List.mem_cons,List.not_mem_nil,or_false] at hx;subst hx;exact mV.o) (by simp)
       have eo:=C aY;have ey:=C gm;clear aY gm fl;go_wp2;refine mA eo.o ?_;exact ey.o
      ·go_wp2_with fail
       refine Calls.mono (zf lx.o) ?_;rintro e eB ⟨s,nO,rfl,gp,ij,h8,jJ,gY,ig,dF⟩;replace dF:=uI.so (d:=(d1 + 1)) ke.o dF;have fp:=C dF;have fx:=C gp;have jx:=C ij;have nn:=C (qX.o.trans h8);have iY:=C (show ∀ b∈s.aw,w.heap.size≤b∧b≠U from fun b ad=> by
        have h1:=jJ b ad;have h2:=lt_of_block ku.o;have h3:=aB.o
        omega)
       have eX:=C gY;have hL:=C ig;have fl:=h8.heap ku.o (by simp;exact kt.o);obtain ⟨c0,gh⟩:∃ c0,c0=s:=⟨_,rfl⟩;rw [←gh] at fx iY eX hL fp;have fg:=C gh;obtain ⟨op3,dk,dm,set3,di,dj,kids3,cA,cC,cB,cv,cx⟩:=s;simp only [MRe.val];obtain ⟨z0,z1,z2,z3,z4,z5,b9,cc,cj⟩:=ew fl;obtain ⟨aY,cm,hm,hk,hfr⟩:=tq HM.o jx.o nn.o (Nat.le_of_eq aB.o.symm) fl (by have:=fx.o;rw [fg.o] at this;exact this) (by have:=iY.o;rw [fg.o] at this;exact this);have eo:=C aY;have ey:=C cm;have fS:=C hm;have fT:=C hk;have mU:=C hfr;clear aY cm hm hk hfr fl gp ij h8 jJ gY ig gh dF;go_wp2;refine mA eo.o ?_;exact ⟨_,nO,rfl,ey.o,fS.o,fT.o,mU.o,by have:=eX.o;rw [fg.o] at this;exact this,by have:=hL.o;rw [fg.o] at this;exact Nat.le_trans this (by omega),by have:=fp.o;rw [fg.o] at this;exact this⟩
     ·obtain ⟨vL,qy,xG,sh,gL⟩:=lx.o.row;obtain ⟨ar,c1,c2,an,av,fh⟩:=vm gL;clear gL
      by_cases cy:0 < bits BinOp.and IntKind.i64 uses 8
      ·go_wp2_with fail
       refine Calls.mono (pR.o _ g cS dH bR uses a1 lx.o (by have:=xt.o;have:=ke.o;have:=yh.o;omega) (by have:=xt.o;have:=ke.o;omega)) ?_;rintro e bS ⟨ja,x1,rfl,hW,uc,hk5,hf5,na,DH,D0⟩;have sD:=C D0;have qY:=C hW;have wC:=C uc;have sB:=C (qX.o.trans hk5);have qj:=C (show ∀ b∈ja.aw,U < b from fun b ad=> by have:=hf5 b ad;have:=lt_of_block ku.o;omega);have qs:=C na;have mV:=C DH;have lz:=C (hk5.heap ku.o (by simp;exact kt.o));obtain ⟨bW,cQ⟩:∃ bW,bW=ja:=⟨_,rfl⟩;rw [←cQ] at qY qj qs mV sD;have jo:=C cQ;obtain ⟨op2,cg,cf,bj,ct,kc2,a8,mn2,bY,bX,bn,bZ⟩:=ja;simp only [MRe.val];clear hW uc hk5 hf5 na DH cQ D0;have fl:=(I.a1 bS (bf op2 cg bj cf ct a8 kc2 mn2 bY bX bn bZ)).h lz.o;obtain ⟨z0,z1,z2,z3,z4,z5,b9,cc,cj⟩:=ew fl;obtain ⟨aY,gm⟩:=Dy (bd:=bd) (op:=9) (n:=0) (neg:=false) (ka:=some ⟨bS.heap.size,0,none⟩) (kc:=1) (kids:=[bW]) (P:=Left lf (d1 + 1)) (tR.so ke.o (O0 (yh.o) sD.o)) HM.o (wC.o.ah (I.a1 bS (bf op2 cg bj cf ct a8 kc2 mn2 bY bX bn bZ))) (sB.o.alloc _) aB.o fl (Ui qY.o _ (by rw [jo.o];rfl)) (fun b ad=> by
        rcases List.mem_append.1 ad with h | h
        ·simp [df] at h;subst h;exact lt_of_block lz.o
        ·simp only [MRe.dN,List.mem_append,List.not_mem_nil,or_false] at h;exact qj.o b h) (by show r5 _ [] 1 0 0 0 _ _;constructor <;> first | omega | (intro h;omega) | simp) (fun x hx=> by simp only [List.mem_cons,List.not_mem_nil,or_false] at hx;subst hx;exact qs.o) (fun x hx=> by simp only [List.mem_cons,List.not_mem_nil,or_false] at hx;subst hx;exact mV.o) (by simp)
       have eo:=C aY;have ey:=C gm;clear aY gm fl;go_wp2;refine mA eo.o ?_;exact ey.o
      ·go_wp2_with fail
       refine Calls.mono (zf lx.o) ?_;rintro e eB ⟨s,nO,rfl,gp,ij,h8,jJ,gY,ig,dF⟩;replace dF:=uI.so (d:=(d1 + 1)) ke.o dF;have fp:=C dF;have fx:=C gp;have jx:=C ij;have nn:=C (qX.o.trans h8);have iY:=C (show ∀ b∈s.aw,w.heap.size≤b∧b≠U from fun b ad=> by
        have h1:=jJ b ad;have h2:=lt_of_block ku.o;have h3:=aB.o
        omega)
       have eX:=C gY;have hL:=C ig;have fl:=h8.heap ku.o (by simp;exact kt.o);obtain ⟨c0,gh⟩:∃ c0,c0=s:=⟨_,rfl⟩;rw [←gh] at fx iY eX hL fp;have fg:=C gh;obtain ⟨op3,dk,dm,set3,di,dj,kids3,cA,cC,cB,cv,cx⟩:=s;simp only [MRe.val];obtain ⟨z0,z1,z2,z3,z4,z5,b9,cc,cj⟩:=ew fl;obtain ⟨aY,cm,hm,hk,hfr⟩:=tq HM.o jx.o nn.o (Nat.le_of_eq aB.o.symm) fl (by have:=fx.o;rw [fg.o] at this;exact this) (by have:=iY.o;rw [fg.o] at this;exact this);have eo:=C aY;have ey:=C cm;have fS:=C hm;have fT:=C hk;have mU:=C hfr;clear aY cm hm hk hfr fl gp ij h8 jJ gY ig gh dF;go_wp2;refine mA eo.o ?_;exact ⟨_,nO,rfl,ey.o,fS.o,fT.o,mU.o,by have:=eX.o;rw [fg.o] at this;exact this,by have:=hL.o;rw [fg.o] at this;exact Nat.le_trans this (by omega),by have:=fp.o;rw [fg.o] at this;exact this⟩
     ·obtain ⟨vL,qy,xG,sh,gL⟩:=lx.o.row;obtain ⟨ar,c1,c2,an,av,fh⟩:=vm gL;clear gL
      by_cases cy:0 < bits BinOp.and IntKind.i64 uses 1
      ·by_cases hc:0 < qy
       ·go_wp2_with fail
        refine Calls.mono (wb lx.o qy (by omega)) ?_;rintro e w4 ⟨x,dv,dI,rfl,w9,bc,sl⟩;have BN:=C w9;have uF:=C (qX.o.trans bc);have zs:=C (bc.heap ku.o (by simp;exact kt.o));clear w9 bc sl;have fl:=zs.o;obtain ⟨z0,z1,z2,z3,z4,z5,b9,cc,cj⟩:=ew fl;obtain ⟨aY,gm⟩:=Dy (bd:=bd) (op:=6) (n:=1 + x) (neg:=false) (ka:=none) (kc:=0) (kids:=([]:List MRe)) (P:=Left lf (d1 + 1)) (Uf ke.o) HM.o BN.o uF.o aB.o fl (gT.nil _) (by simp [df,MRe.dN]) (by show r5 _ [] 0 0 0 0 _ _;constructor <;> first | omega | (intro h;omega) | simp) (by simp) (by simp) (by simp);have eo:=C aY;have ey:=C gm;clear aY gm fl;go_wp2;refine mA eo.o ?_;exact ey.o
       ·go_wp2_with fail
        refine Calls.mono (zf lx.o) ?_;rintro e eB ⟨s,nO,rfl,gp,ij,h8,jJ,gY,ig,dF⟩;replace dF:=uI.so (d:=(d1 + 1)) ke.o dF;have fp:=C dF;have fx:=C gp;have jx:=C ij;have nn:=C (qX.o.trans h8);have iY:=C (show ∀ b∈s.aw,w.heap.size≤b∧b≠U from fun b ad=> by
         have h1:=jJ b ad;have h2:=lt_of_block ku.o;have h3:=aB.o
         omega)
        have eX:=C gY;have hL:=C ig;have fl:=h8.heap ku.o (by simp;exact kt.o);obtain ⟨c0,gh⟩:∃ c0,c0=s:=⟨_,rfl⟩;rw [←gh] at fx iY eX hL fp;have fg:=C gh;obtain ⟨op3,dk,dm,set3,di,dj,kids3,cA,cC,cB,cv,cx⟩:=s;simp only [MRe.val];obtain ⟨z0,z1,z2,z3,z4,z5,b9,cc,cj⟩:=ew fl;obtain ⟨aY,cm,hm,hk,hfr⟩:=tq HM.o jx.o nn.o (Nat.le_of_eq aB.o.symm) fl (by have:=fx.o;rw [fg.o] at this;exact this) (by have:=iY.o;rw [fg.o] at this;exact this);have eo:=C aY;have ey:=C cm;have fS:=C hm;have fT:=C hk;have mU:=C hfr;clear aY cm hm hk hfr fl gp ij h8 jJ gY ig gh dF;go_wp2;refine mA eo.o ?_;exact ⟨_,nO,rfl,ey.o,fS.o,fT.o,mU.o,by have:=eX.o;rw [fg.o] at this;exact this,by have:=hL.o;rw [fg.o] at this;exact Nat.le_trans this (by omega),by have:=fp.o;rw [fg.o] at this;exact this⟩
      ·go_wp2_with fail
       refine Calls.mono (zf lx.o) ?_;rintro e eB ⟨s,nO,rfl,gp,ij,h8,jJ,gY,ig,dF⟩;replace dF:=uI.so (d:=(d1 + 1)) ke.o dF;have fp:=C dF;have fx:=C gp;have jx:=C ij;have nn:=C (qX.o.trans h8);have iY:=C (show ∀ b∈s.aw,w.heap.size≤b∧b≠U from fun b ad=> by
        have h1:=jJ b ad;have h2:=lt_of_block ku.o;have h3:=aB.o
        omega)
       have eX:=C gY;have hL:=C ig;have fl:=h8.heap ku.o (by simp;exact kt.o);obtain ⟨c0,gh⟩:∃ c0,c0=s:=⟨_,rfl⟩;rw [←gh] at fx iY eX hL fp;have fg:=C gh;obtain ⟨op3,dk,dm,set3,di,dj,kids3,cA,cC,cB,cv,cx⟩:=s;simp only [MRe.val];obtain ⟨z0,z1,z2,z3,z4,z5,b9,cc,cj⟩:=ew fl;obtain ⟨aY,cm,hm,hk,hfr⟩:=tq HM.o jx.o nn.o (Nat.le_of_eq aB.o.symm) fl (by have:=fx.o;rw [fg.o] at this;exact this) (by have:=iY.o;rw [fg.o] at this;exact this);have eo:=C aY;have ey:=C cm;have fS:=C hm;have fT:=C hk;have mU:=C hfr;clear aY cm hm hk hfr fl gp ij h8 jJ gY ig gh dF;go_wp2;refine mA eo.o ?_;exact ⟨_,nO,rfl,ey.o,fS.o,fT.o,mU.o,by have:=eX.o;rw [fg.o] at this;exact this,by have:=hL.o;rw [fg.o] at this;exact Nat.le_trans this (by omega),by have:=fp.o;rw [fg.o] at this;exact this⟩
     ·obtain ⟨vL,qy,xG,sh,gL⟩:=lx.o.row;obtain ⟨ar,c1,c2,an,av,fh⟩:=vm gL;clear gL
      by_cases cy:0 < bits BinOp.and IntKind.i64 uses 2
      ·by_cases hc:0 < qy
       ·go_wp2_with fail
        refine Calls.mono (wb lx.o qy (by omega)) ?_;rintro e w4 ⟨x,dv,dI,rfl,w9,bc,sl⟩;have BN:=C w9;have uF:=C (qX.o.trans bc);have zs:=C (bc.heap ku.o (by simp;exact kt.o));clear w9 bc sl;go_wp2_with fail
        refine Calls.mono (pR.o _ g cS dH bR uses a1 BN.o (by have:=xt.o;have:=ke.o;have:=yh.o;omega) (by have:=xt.o;have:=ke.o;omega)) ?_;rintro e bS ⟨ja,x1,rfl,hW,uc,hk5,hf5,na,DH,D0⟩;have sD:=C D0;have qY:=C hW;have wC:=C uc;have sB:=C (uF.o.trans hk5);have qj:=C (show ∀ b∈ja.aw,U < b from fun b ad=> by have:=hf5 b ad;have:=lt_of_block zs.o;omega);have qs:=C na;have mV:=C DH;have lz:=C (hk5.heap zs.o (by simp;exact kt.o));obtain ⟨bW,cQ⟩:∃ bW,bW=ja:=⟨_,rfl⟩;rw [←cQ] at qY qj qs mV sD;have jo:=C cQ;obtain ⟨op2,cg,cf,bj,ct,kc2,a8,mn2,bY,bX,bn,bZ⟩:=ja;simp only [MRe.val];clear hW uc hk5 hf5 na DH cQ D0;go_upto_region 29 with fail
        obtain ⟨eJ,NO⟩:∃ eJ,eJ=bS.alloc (bf op2 cg bj cf ct a8 kc2 mn2 bY bX bn bZ):=⟨_,rfl⟩;have hV:I [] bS eJ:=by rw [NO];exact I.a1 _ _
        have rE:eJ.heap[bS.heap.size]? =some (bf op2 cg bj cf ct a8 kc2 mn2 bY bX bn bZ):=by rw [NO];exact heap_alloc_new bS _
        rw [←NO];obtain ⟨fs,zP⟩:∃ fs,fs=bS.heap.size:=⟨_,rfl⟩;rw [←zP] at rE ⊢;obtain ⟨c6,y1,dp,eb,ef,ej,ek,el⟩:=eR rE;have om:=C (show fs≠g by have:=wC.o.lt;omega);have sC:=C (show fs≠U by have:=lt_of_block lz.o;omega);have GZ:=C (wC.o.ah hV);have yn:=C (sB.o.trans (hV.mono (S':=[g]) (by simp)));have MZ:=C (hV.h lz.o);have afq:=C (qY.o.ah hV);clear NO hV rE zP;have ky:IntKind.i64.wrap (d1:Int)=(d1:Int):=IntWalk.i64_in _ (by omega);refine rg (S:=fun w'=> iK w' fs op2 cg bj cf ct a8 kc2 mn2 bY bX bn bZ) (fun _ k=> (k.au c6 y1 dp eb ef ej ek el)) fun bM aF=> ?_;refine ag 0 ?_;refine ag 1 ?_;refine ag 2 ?_;refine ag 3 ?_;refine ag 4 ?_;refine bh 5 fun ai af=> ?_;go_simp;have ZO:=sD.o;have Td:=alq ZO (yh.o) (by have:=xt.o;have:=ke.o;omega) oX;refine Calls.mono (pR.o _ g cS dH bR uses x1 (GZ.o.ah (I.refl [] _).drew) Td.1 Td.2) ?_;rintro e gW ⟨ja,alp,rfl,aaj,ZZ,ZC,Za,aa4,YX,aat⟩;have VU:=C aat;have gX:I [g] eJ gW:=((I.refl [g] eJ).drew).trans ZC;have VQ:=C aaj;have MF:=C ZZ;have pQ:=C gX;have EL:=C (yn.o.trans gX);have VC:=C (show ∀ b∈ja.aw,U < b from fun b ad=> by have:eJ.heap.size≤b:=Za b ad;have:=lt_of_block MZ.o;omega);have Wf:=C aa4;have Vp:=C YX;have uG:=C (gX.heap MZ.o (by simp;exact kt.o));obtain ⟨m1,hA⟩:∃ m1,m1=ja:=⟨_,rfl⟩;rw [←hA] at VQ VC Wf Vp VU;have xu:=C hA;obtain ⟨e7,e8,e9,fa,e0,e1,e2,e3,e5,e4,eQ,e6⟩:=ja;simp only [MRe.val];have afr:=C (afq.o.bG gX fun b ad=> by have:=qj.o b ad;have h2:=vv.o;have h3:=aB.o;simp;omega);clear aaj ZZ Za aa4 YX hA gX ZC aat ZO Td;refine af.out _ _ (⟨pQ.o.cell c6 (by simp;exact om.o),pQ.o.cell y1 (by simp;exact om.o),pQ.o.cell dp (by simp;exact om.o),pQ.o.cell eb (by simp;exact om.o),pQ.o.cell ef (by simp;exact om.o),pQ.o.cell ej (by simp;exact om.o),pQ.o.cell ek (by simp;exact om.o),pQ.o.cell el (by simp;exact om.o)⟩) (fun aF=> ?_);clear af ai;try go_frame
        refine bh 6 fun ai af=> ?_;go_simp;have eS:=C (I.a1 gW (.cells #[H J op2,M cg bj.length cf,M ct a8.length kc2,H J mn2,H J bY,H J bX,H J bn,F bZ,H J e7,M e8 fa.length e9,M e0 e2.length e1,H J e3,H J e5,H J e4,H J eQ,F e6] 26));refine af.out _ _ (⟨eS.o.cell (pQ.o.cell c6 (by simp;exact om.o)) (by simp),eS.o.cell (pQ.o.cell y1 (by simp;exact om.o)) (by simp),eS.o.cell (pQ.o.cell dp (by simp;exact om.o)) (by simp),eS.o.cell (pQ.o.cell eb (by simp;exact om.o)) (by simp),eS.o.cell (pQ.o.cell ef (by simp;exact om.o)) (by simp),eS.o.cell (pQ.o.cell ej (by simp;exact om.o)) (by simp),eS.o.cell (pQ.o.cell ek (by simp;exact om.o)) (by simp),eS.o.cell (pQ.o.cell el (by simp;exact om.o)) (by simp)⟩) (fun aF=> ?_);clear af ai;try go_frame
        refine ag 7 ?_;have fl:=eS.o.h uG.o;have Yl:=heap_alloc_new gW (.cells #[H J op2,M cg bj.length cf,M ct a8.length kc2,H J mn2,H J bY,H J bX,H J bn,F bZ,H J e7,M e8 fa.length e9,M e0 e2.length e1,H J e3,H J e5,H J e4,H J eQ,F e6] 26);obtain ⟨z0,z1,z2,z3,z4,z5,b9,cc,cj⟩:=ew fl;obtain ⟨aY,gm⟩:=Dy (bd:=bd) (op:=10) (n:=1 + x) (neg:=false) (ka:=some ⟨gW.heap.size,0,none⟩) (kc:=2) (kids:=[bW,m1]) (P:=Left lf (d1 + 1)) (tR.so ke.o (aoF (yh.o) sD.o VU.o)) HM.o (MF.o.ah eS.o) (EL.o.alloc _) aB.o fl ⟨hH.kq (kids:=[bW,m1]) Yl (by rw [jo.o,xu.o];simp [fX,MRe.row]) (by simp [maxLen]),fun z aW=> by
         simp only [List.mem_cons,List.not_mem_nil,or_false] at aW
         rcases aW with rfl | rfl
         ·exact afr.o.ah eS.o
         ·exact VQ.o.ah eS.o⟩ (fun b ad=> by
         rcases List.mem_append.1 ad with h | h
         ·simp [df] at h;subst h;exact lt_of_block uG.o
         ·simp only [MRe.dN,List.mem_append,List.not_mem_nil,or_false] at h
          rcases h with h | h
          ·exact qj.o b h
          ·exact VC.o b h) (by show r5 _ [] 2 0 0 0 _ _;constructor <;> first | omega | (intro h;omega) | simp) (fun z aW=> by
         simp only [List.mem_cons,List.not_mem_nil,or_false] at aW
         rcases aW with rfl | rfl
         ·exact qs.o
         ·exact Wf.o) (fun z aW=> by
         simp only [List.mem_cons,List.not_mem_nil,or_false] at aW
         rcases aW with rfl | rfl
         ·exact mV.o
         ·exact Vp.o) (by simp)
        have eo:=C aY;have ey:=C gm;have bk:=C (jv (gW.alloc (.cells #[H J op2,M cg bj.length cf,M ct a8.length kc2,H J mn2,H J bY,H J bX,H J bn,F bZ,H J e7,M e8 fa.length e9,M e0 e2.length e1,H J e3,H J e5,H J e4,H J eQ,F e6] 26)) U (H J 10) (M none 0 0) (M (some ⟨gW.heap.size,0,none⟩) 2 2) (H J 0) (H J 0) (H J 0) (H J (1 + x)) (F false));clear aY gm fl Yl;refine bh 8 fun ai af=> ?_;go_simp;refine af.out _ _ ⟨bk.o.cell (eS.o.cell (pQ.o.cell c6 (by simp;exact om.o)) (by simp)) (by simp;exact sC.o),bk.o.cell (eS.o.cell (pQ.o.cell y1 (by simp;exact om.o)) (by simp)) (by simp;exact sC.o),bk.o.cell (eS.o.cell (pQ.o.cell dp (by simp;exact om.o)) (by simp)) (by simp;exact sC.o),bk.o.cell (eS.o.cell (pQ.o.cell eb (by simp;exact om.o)) (by simp)) (by simp;exact sC.o),bk.o.cell (eS.o.cell (pQ.o.cell ef (by simp;exact om.o)) (by simp)) (by simp;exact sC.o),bk.o.cell (eS.o.cell (pQ.o.cell ej (by simp;exact om.o)) (by simp)) (by simp;exact sC.o),bk.o.cell (eS.o.cell (pQ.o.cell ek (by simp;exact om.o)) (by simp)) (by simp;exact sC.o),bk.o.cell (eS.o.cell (pQ.o.cell el (by simp;exact om.o)) (by simp)) (by simp;exact sC.o)⟩ (fun aF=> ?_);clear af ai;refine dR ?_;clear z0 z1 z2 z3 z4 z5 b9 cc cj c6 y1 dp eb ef ej ek el aF;go_wp2;refine mA eo.o ?_;exact ey.o
       ·go_wp2_with fail
        refine Calls.mono (zf lx.o) ?_;rintro e eB ⟨s,nO,rfl,gp,ij,h8,jJ,gY,ig,dF⟩;replace dF:=uI.so (d:=(d1 + 1)) ke.o dF;have fp:=C dF;have fx:=C gp;have jx:=C ij;have nn:=C (qX.o.trans h8);have iY:=C (show ∀ b∈s.aw,w.heap.size≤b∧b≠U from fun b ad=> by
         have h1:=jJ b ad;have h2:=lt_of_block ku.o;have h3:=aB.o
         omega)
        have eX:=C gY;have hL:=C ig;have fl:=h8.heap ku.o (by simp;exact kt.o);obtain ⟨c0,gh⟩:∃ c0,c0=s:=⟨_,rfl⟩;rw [←gh] at fx iY eX hL fp;have fg:=C gh;obtain ⟨op3,dk,dm,set3,di,dj,kids3,cA,cC,cB,cv,cx⟩:=s;simp only [MRe.val];obtain ⟨z0,z1,z2,z3,z4,z5,b9,cc,cj⟩:=ew fl;obtain ⟨aY,cm,hm,hk,hfr⟩:=tq HM.o jx.o nn.o (Nat.le_of_eq aB.o.symm) fl (by have:=fx.o;rw [fg.o] at this;exact this) (by have:=iY.o;rw [fg.o] at this;exact this);have eo:=C aY;have ey:=C cm;have fS:=C hm;have fT:=C hk;have mU:=C hfr;clear aY cm hm hk hfr fl gp ij h8 jJ gY ig gh dF;go_wp2;refine mA eo.o ?_;exact ⟨_,nO,rfl,ey.o,fS.o,fT.o,mU.o,by have:=eX.o;rw [fg.o] at this;exact this,by have:=hL.o;rw [fg.o] at this;exact Nat.le_trans this (by omega),by have:=fp.o;rw [fg.o] at this;exact this⟩
      ·go_wp2_with fail
       refine Calls.mono (zf lx.o) ?_;rintro e eB ⟨s,nO,rfl,gp,ij,h8,jJ,gY,ig,dF⟩;replace dF:=uI.so (d:=(d1 + 1)) ke.o dF;have fp:=C dF;have fx:=C gp;have jx:=C ij;have nn:=C (qX.o.trans h8);have iY:=C (show ∀ b∈s.aw,w.heap.size≤b∧b≠U from fun b ad=> by
        have h1:=jJ b ad;have h2:=lt_of_block ku.o;have h3:=aB.o
        omega)
       have eX:=C gY;have hL:=C ig;have fl:=h8.heap ku.o (by simp;exact kt.o);obtain ⟨c0,gh⟩:∃ c0,c0=s:=⟨_,rfl⟩;rw [←gh] at fx iY eX hL fp;have fg:=C gh;obtain ⟨op3,dk,dm,set3,di,dj,kids3,cA,cC,cB,cv,cx⟩:=s;simp only [MRe.val];obtain ⟨z0,z1,z2,z3,z4,z5,b9,cc,cj⟩:=ew fl;obtain ⟨aY,cm,hm,hk,hfr⟩:=tq HM.o jx.o nn.o (Nat.le_of_eq aB.o.symm) fl (by have:=fx.o;rw [fg.o] at this;exact this) (by have:=iY.o;rw [fg.o] at this;exact this);have eo:=C aY;have ey:=C cm;have fS:=C hm;have fT:=C hk;have mU:=C hfr;clear aY cm hm hk hfr fl gp ij h8 jJ gY ig gh dF;go_wp2;refine mA eo.o ?_;exact ⟨_,nO,rfl,ey.o,fS.o,fT.o,mU.o,by have:=eX.o;rw [fg.o] at this;exact this,by have:=hL.o;rw [fg.o] at this;exact Nat.le_trans this (by omega),by have:=fp.o;rw [fg.o] at this;exact this⟩
     ·go_wp2_with fail
      refine Calls.mono (zf lx.o) ?_;rintro e eB ⟨s,nO,rfl,gp,ij,h8,jJ,gY,ig,dF⟩;replace dF:=uI.so (d:=(d1 + 1)) ke.o dF;have fp:=C dF;have fx:=C gp;have jx:=C ij;have nn:=C (qX.o.trans h8);have iY:=C (show ∀ b∈s.aw,w.heap.size≤b∧b≠U from fun b ad=> by
       have h1:=jJ b ad;have h2:=lt_of_block ku.o;have h3:=aB.o
       omega)
      have eX:=C gY;have hL:=C ig;have fl:=h8.heap ku.o (by simp;exact kt.o);obtain ⟨c0,gh⟩:∃ c0,c0=s:=⟨_,rfl⟩;rw [←gh] at fx iY eX hL fp;have fg:=C gh;obtain ⟨op3,dk,dm,set3,di,dj,kids3,cA,cC,cB,cv,cx⟩:=s;simp only [MRe.val];obtain ⟨z0,z1,z2,z3,z4,z5,b9,cc,cj⟩:=ew fl;obtain ⟨aY,cm,hm,hk,hfr⟩:=tq HM.o jx.o nn.o (Nat.le_of_eq aB.o.symm) fl (by have:=fx.o;rw [fg.o] at this;exact this) (by have:=iY.o;rw [fg.o] at this;exact this);have eo:=C aY;have ey:=C cm;have fS:=C hm;have fT:=C hk;have mU:=C hfr;clear aY cm hm hk hfr fl gp ij h8 jJ gY ig gh dF;go_wp2;refine mA eo.o ?_;exact ⟨_,nO,rfl,ey.o,fS.o,fT.o,mU.o,by have:=eX.o;rw [fg.o] at this;exact this,by have:=hL.o;rw [fg.o] at this;exact Nat.le_trans this (by omega),by have:=fp.o;rw [fg.o] at this;exact this⟩
end Go.Proofs.YtjnlkjlbejelgaaGreat
