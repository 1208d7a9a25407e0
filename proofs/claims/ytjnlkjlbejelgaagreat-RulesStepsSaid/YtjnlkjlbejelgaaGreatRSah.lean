/- Part of the proof. No condition: every lemma says its own. -/
import Derived.Test.YtjnlkjlbejelgaaGreatRSaf
namespace Go.Proofs.YtjnlkjlbejelgaaGreat
open Go.RowKit
open Go.Value renaming int→H,slice→M,bool→F
open Go.IntKind renaming i64→J
set_option maxRecDepth 100000
set_option maxHeartbeats 16000000
theorem anu (m:MRe):∀ (w:World),m.aK w→m.ab.q7→
  Calls Tryz.prog 98 #[m.val] w fun e w'=> e=.returned (H J (qe m.ab:Int))∧I [] w w':=by
 induction m using MRe.nq with
 | h op sa sc set ka kc kids mn mx mode n neg ih=>
  intro w aj aJ;obtain ⟨eu,wW⟩:∃ eu,eu=qe (MRe.ab (.node op sa sc set ka kc kids mn mx mode n neg)):=⟨_,rfl⟩;rw [←wW];have Ot:eu < 128:=by rw [wW];exact Ml _
  replace wW:eu=xk (.node op set (MRe.al kids) mn mx mode n neg) ||| og (MRe.al kids):=wW;have eC:=U4 aJ;have ff:=C (fun k (hk:k∈kids) W (h:I [] w W)=> ih k hk W ((aj.dy hk).ah h) (IE aJ hk));have yp:=C (fun k (hk:k∈kids) W (h:I [] w W)=> CR k W ((aj.dy hk).ah h) (IE aJ hk));have hcap:=aj.ch.cap;have fc:=aj.ch.le;unfold maxLen at hcap;have b6:=C aj.kids;simp only [MRe.val];obtain ⟨U,aA,ar,c1,c2,an,av,ay,ax,az,dw,aB,aZ⟩:=tD w op sa sc set ka kc kids mn mx mode n neg;clear ih aj aJ
  by_cases h4:op=4
  ·have lE:kids.length=1:=eC.hone (by simp [h4]);have l7:0 < kids.length:=by omega
   have hln:(0:Int) < (kids.length:Int):=by omega
   obtain ⟨b1,cR,dq,fw,iM,hD,jf,hP⟩:=b6.o.head l7;obtain ⟨r,aO⟩:=oJ hD;have hg:HI (MRe.al kids)=fA dq.ab:=by rw [aO];rfl
   have hK:=yp.o dq iM;obtain ⟨ae,hq⟩:∃ ae,ae=fA dq.ab:=⟨_,rfl⟩;simp only [←hq] at hK;rw [←hq] at hg;replace wW:eu=((if mode=2 then 8 else 0) ||| (if ae=true then 32 else 0)) ||| og (MRe.al kids):=by rw [wW,xk,hg];simp [h4]
   obtain ⟨gy,rF⟩:∃ gy,gy=(if mode=2 then 8 else 0) ||| (if ae=true then 32 else 0):=⟨_,rfl⟩;rw [←rF] at wW;have dP:=C rF;have QI:=C (show gy ||| og ((MRe.al kids).drop 0)=eu by rw [wW];rfl);have Qq:=C (show gy < 128 from Nat.lt_of_le_of_lt (Nat.left_le_or:gy≤gy ||| og (MRe.al kids)) (by rw [←wW];exact Ot));clear wW rF Ot;subst h4;subst fw;obtain ⟨op1,aM,aN,set1,aS,kc1,aq,mn1,aI,mode1,n1,aL⟩:=dq;have g:=jf.node;obtain ⟨bg,aV,a6,bl,bq,bE,bF,bH⟩:=id g;obtain ⟨bK,d1,d2,bL,bO,bT,bU,bV⟩:=aZ.o.au bg aV a6 bl bq bE bF bH;simp only [MRe.val] at hK;have hK:=C hK;clear g bg aV a6 bl bq bE bF bH iM hD jf hP aO hg hq lE eC yp;have aqk:bits .or .i64 8 32=40:=by decide
   have aqj:bits .or .i64 0 32=32:=by decide
   rcases (show mode=2∨¬ mode=2 by omega) with rfl | m2
   all_goals
    go_enter Tryz.func98,Tryz.ntmps98
    go_upto_region 1 with fail
    rw [←dw.o,←aB.o];go_wp2_with fail
    refine Calls.mono (hK.o _ aZ.o) ?_;rintro e eB ⟨rfl,ie⟩;have q3:=C ie;obtain ⟨t0,t1,fu,t3,t4,t5,jm,jn⟩:=ie.au ar c1 c2 an av ay ax az;clear ie bK d1 d2 bL bO bT bU bV hK
    cases ae
    all_goals
     go_wp2
     go_loopw [3,4] (fun v i wr=> ∃ k u:Nat,k≤kids.length∧i=H J k∧v=H J (u:Int)∧u < 128∧u ||| og ((MRe.al kids).drop k)=eu∧I [] aA wr) (fun _ i _=> kids.length - (intOf i).toNat)
     case atStart=> exact ⟨0,gy,Nat.zero_le _,rfl,(by rw [dP.o];first | rfl | (rw [if_neg m2];rfl)),Qq.o,QI.o,q3.o⟩
     case round=>
      obtain ⟨k,u,gC,rfl,rfl,cy,fB,ck⟩:=hrel;have cX:=C ck;have dp:=ck.c c2;clear ck ar c1 c2 an av ay ax az
      by_cases aQ:k < kids.length
      ·obtain ⟨b,off,xQ,ad,hx⟩:=(b6.o.ah (aZ.o.trans cX.o)).ch.dy (by omega)
       cases xQ
       have eD:=hx k aQ;have bI:=C (ff.o kids[k] (List.getElem_mem aQ) wr (aZ.o.trans cX.o));rw [wt kids k aQ,og,←Nat.or_assoc] at fB
       generalize kids[k]=m at *
       obtain ⟨ae,hq⟩:∃ ae,ae=qe m.ab:=⟨_,rfl⟩;have FV:ae < 128:=by rw [hq];exact Ml _
       rw [←hq] at bI fB;have jX:=Rz cy FV;have gD:=C (Gq cy FV);have eg:=C fB;obtain ⟨op1,aM,aN,set1,aS,kc1,aq,mn1,aI,mode1,n1,aL⟩:=m;have g:=eD.node;obtain ⟨bg,aV,a6,bl,bq,bE,bF,bH⟩:=id g;simp only [MRe.val] at bI;clear g eD hx hq fB cy FV;go_wp2_with fail
       refine Calls.mono bI.o ?_;rintro e w3 ⟨rfl,aP⟩;have aR:=C (cX.o.trans aP);clear aP;go_wp2;go_roundw
       case rel=> exact ⟨k + 1,u ||| ae,by omega,by go_num,rfl,gD.o,eg.o,aR.o⟩
       case measure=> simp [intOf];omega
      ·obtain rfl:k=kids.length:=by omega
       have h0:u=eu:=by
        rw [List.drop_of_length_le (by rw [MRe.ee];exact Nat.le_refl _)] at fB
        simpa [og] using fB
       have ny:=C h0;clear h0 fB;go_wp2;go_ret;exact ⟨by rw [←ny.o];rfl,aZ.o.trans cX.o⟩
  ·have ds:op=0∨op=1∨op=2∨op=3∨op=5∨op=6∨op=7∨op=8∨op=9∨op=10∨op=11:=by have:=eC.mL;omega
   clear eC yp h4;obtain ⟨gy,rF⟩:∃ gy,gy=xk (.node op set (MRe.al kids) mn mx mode n neg):=⟨_,rfl⟩;rw [←rF] at wW;have dP:=C rF;have QI:=C (show gy ||| og ((MRe.al kids).drop 0)=eu by rw [wW];rfl);have Qq:=C (show gy < 128 from Nat.lt_of_le_of_lt (Nat.left_le_or:gy≤gy ||| og (MRe.al kids)) (by rw [←wW];exact Ot));clear wW rF Ot
   rcases ds with rfl | rfl | rfl | rfl | rfl | rfl | rfl | rfl | rfl | rfl | rfl
   all_goals
    go_enter Tryz.func98,Tryz.ntmps98
    go_upto_region 1 with fail
    rw [←dw.o,←aB.o];go_wp2
    go_loopw [3,4] (fun v i wr=> ∃ k u:Nat,k≤kids.length∧i=H J k∧v=H J (u:Int)∧u < 128∧u ||| og ((MRe.al kids).drop k)=eu∧I [] aA wr) (fun _ i _=> kids.length - (intOf i).toNat)
    case atStart=> exact ⟨0,gy,Nat.zero_le _,rfl,(by rw [dP.o];rfl),Qq.o,QI.o,I.refl _ _⟩
    case round=>
     obtain ⟨k,u,gC,rfl,rfl,cy,fB,ck⟩:=hrel;have cX:=C ck;have dp:=ck.c c2;clear ck ar c1 c2 an av ay ax az
     by_cases aQ:k < kids.length
     ·obtain ⟨b,off,xQ,ad,hx⟩:=(b6.o.ah (aZ.o.trans cX.o)).ch.dy (by omega)
      cases xQ
      have eD:=hx k aQ;have bI:=C (ff.o kids[k] (List.getElem_mem aQ) wr (aZ.o.trans cX.o));rw [wt kids k aQ,og,←Nat.or_assoc] at fB
      generalize kids[k]=m at *
      obtain ⟨ae,hq⟩:∃ ae,ae=qe m.ab:=⟨_,rfl⟩;have FV:ae < 128:=by rw [hq];exact Ml _
      rw [←hq] at bI fB;have jX:=Rz cy FV;have gD:=C (Gq cy FV);have eg:=C fB;obtain ⟨op1,aM,aN,set1,aS,kc1,aq,mn1,aI,mode1,n1,aL⟩:=m;have g:=eD.node;obtain ⟨bg,aV,a6,bl,bq,bE,bF,bH⟩:=id g;simp only [MRe.val] at bI;clear g eD hx hq fB cy FV;go_wp2_with fail
      refine Calls.mono bI.o ?_;rintro e w3 ⟨rfl,aP⟩;have aR:=C (cX.o.trans aP);clear aP;go_wp2;go_roundw
      case rel=> exact ⟨k + 1,u ||| ae,by omega,by go_num,rfl,gD.o,eg.o,aR.o⟩
      case measure=> simp [intOf];omega
     ·obtain rfl:k=kids.length:=by omega
      have h0:u=eu:=by
       rw [List.drop_of_length_le (by rw [MRe.ee];exact Nat.le_refl _)] at fB
       simpa [og] using fB
      have ny:=C h0;clear h0 fB;go_wp2;go_ret;exact ⟨by rw [←ny.o];rfl,aZ.o.trans cX.o⟩
theorem ac2 (m:MRe) (w:World) (aj:m.aK w) (aJ:m.ab.q7):
  Calls Tryz.prog 54 #[m.val] w fun e w'=> e=.returned (F (s8 m.ab))∧I [] w w':=by
 have lM:=C (fun (W:World) (h:I [] w W)=> anu m W (aj.ah h) aJ);have hp:s8 m.ab=(qe m.ab==0 || qe m.ab==32):=rfl;obtain ⟨u,cy⟩:∃ u,u=qe m.ab:=⟨_,rfl⟩;rw [hp];rw [←cy] at lM ⊢;obtain ⟨op,sa,sc,set,ka,kc,kids,mn,mx,mode,n,neg⟩:=m;simp only [MRe.val] at lM ⊢;obtain ⟨U,aA,ar,c1,c2,an,av,ay,ax,az,dw,aB,aZ⟩:=tD w op sa sc set ka kc kids mn mx mode n neg;clear aj aJ hp cy
 by_cases h0:u=0
 ·subst h0;go_enter Tryz.func54,Tryz.ntmps54
  go_upto_region 1 with fail
  rw [←dw.o,←aB.o];go_wp2_with fail
  refine Calls.mono (lM.o _ aZ.o) ?_;rintro e w2 ⟨rfl,hk⟩;have b6:=C (aZ.o.trans hk);clear hk;go_wp2;go_ret;exact ⟨rfl,b6.o⟩
 ·have R8:¬ (u:Int)=0:=by omega
  have X6:(u==0)=false:=by simpa using h0
  by_cases h32:u=32
  ·subst h32;go_enter Tryz.func54,Tryz.ntmps54
   go_upto_region 1 with fail
   rw [←dw.o,←aB.o];go_wp2_with fail
   refine Calls.mono (lM.o _ aZ.o) ?_;rintro e w2 ⟨rfl,hk⟩;have b6:=C (aZ.o.trans hk);clear hk;go_wp2;go_ret;exact ⟨rfl,b6.o⟩
  ·have aji:¬ (u:Int)=32:=by omega
   have Fl:(u==32)=false:=by simpa using h32
   have aD:=C (show (u==0 || u==32)=false by rw [X6,Fl];rfl);have gq:((u:Int)==0)=false:=by simpa using R8
   have i2:((u:Int)==32)=false:=by simpa using aji
   clear X6 Fl;go_enter Tryz.func54,Tryz.ntmps54
   go_upto_region 1 with fail
   rw [←dw.o,←aB.o];go_wp2_with fail
   refine Calls.mono (lM.o _ aZ.o) ?_;rintro e w2 ⟨rfl,hk⟩;have b6:=C (aZ.o.trans hk);clear hk;go_wp2;go_ret;exact ⟨by rw [aD.o];rfl,b6.o⟩
theorem amN (m:MRe) (w:World) (aj:m.aK w) (aJ:m.ab.dE):
  Calls Tryz.prog 12 #[H J 13,m.val] w (dc w m.aw (rj m.ab)):=by
 obtain ⟨R,aC⟩:∃ R,R=rj m.ab:=⟨_,rfl⟩;rw [←aC];obtain ⟨op,sa,sc,set,ka,kc,kids,mn,mx,mode,n,neg⟩:=m;have eC:=kB aJ;obtain ⟨U,cd⟩:∃ U,U=w.heap.size:=⟨_,rfl⟩;obtain ⟨aE,cz,iy,aW,j8,cZ,cq⟩:=Bb w (.node op sa sc set ka kc kids mn mx mode n neg) 26;simp only [MRe.row] at cz;rw [←cd] at iy aW j8 cZ;have Yg:aE.heap[U]? =some (bf op sa set sc ka kids kc mn mx mode n neg):=by rw [cz,cd];exact (I.a2 _ _ _).heap (heap_alloc_new w _) (by simp)
 have jc:=C Yg;have aB:=C cd;have c7:=C cz;have bI:=C iy;have ba:=C aW;have lA:=C j8;have aH:=C cq;have hC:=C cZ;have eU:=C aj.fi;have hj:=C (I.refl [] aE);clear cd cz iy aW j8 cq cZ Yg;replace aC:R=rj (.node op set (MRe.al kids) mn mx mode n neg):=aC;simp only [MRe.val]
 by_cases h7:op=7
 ·subst h7
  cases neg with
  | true=>
   have aD:=C (aC.trans (O7 (op:=7) (set:=set) (kids:=MRe.al kids) (mn:=mn) (mx:=mx) (mode:=mode) (n:=n) (neg:=true) (fun _ h=> by cases h)));clear aC aj aJ eC;obtain ⟨ar,c1,c2,an,av,ay,ax,az⟩:=bI.o.ez;go_enter Tryz.func12,Tryz.ntmps12
   go_upto_region 2 with fail
   rw [←c7.o,←aB.o];obtain ⟨c6,y1,dp,eb,ef,ej,ek,el,oh⟩:=ew (hj.o.h lA.o);obtain ⟨z0,z1,z2,z3,z4,z5,b9,cc,cj,cw,bQ⟩:=gR aB.o aH.o hj.o ba.o;go_wp2;refine rt cw.o ?_;exact dc.dL aD.o rfl bQ.o
  | false=>
   have lE:kids.length=1:=eC.hone (by simp);have l7:0 < kids.length:=by omega
   have hln:(0:Int) < (kids.length:Int):=by omega
   have aeL:=C (eC.HU (by omega));have AR:=C (eC.aai (by omega));have aeM:=C (eC.aag (by omega));have fp:=C aj.nV;have hL:=C (show ∀ ae∈df set.length sa,ae∈(MRe.node 7 sa sc set ka kc kids mn mx mode n false).aw from fun ae hq=> by simp only [MRe.aw,List.mem_append];exact .inl hq);obtain ⟨b1,cR,dq,rfl,iM,hD,jf,hP⟩:=aj.kids.head l7;obtain ⟨r,aO⟩:=oJ hD;have hg:(MRe.al kids).getD 0 .nil=dq.ab:=by rw [aO];rfl
   have Bf:=mS aJ iM;have qA:∀ ae∈dq.aw,ae∈(MRe.node 7 sa sc set (some ⟨b1,cR,none⟩) kc kids mn mx mode n false).aw:=mF iM;have rG:R=if dq.ab.op=2∧s8 (dq.ab.kids.getD (dq.ab.kids.length - 1) .nil)=true∧fA (dq.ab.kids.getD (dq.ab.kids.length - 1) .nil)=true then some (gE 7 [im 2 (dq.ab.kids.take (dq.ab.kids.length - 1))]) else none:=by
    rw [aC,rj,hg];simp only [true_and]
   obtain ⟨op1,aM,aN,set1,aS,kc1,aq,mn1,aI,mode1,n1,aL⟩:=dq;have g:=jf.node;obtain ⟨bg,aV,a6,bl,bq,bE,bF,bH⟩:=id g;obtain ⟨bK,d1,d2,bL,bO,bT,bU,bV⟩:=aH.o.au bg aV a6 bl bq bE bF bH;clear g bg aV a6 bl bq bE bF bH aC;have Ft:(MRe.ab (.node op1 aM aN set1 aS kc1 aq mn1 aI mode1 n1 aL)).kids=MRe.al aq:=rfl;have Fu:(MRe.ab (.node op1 aM aN set1 aS kc1 aq mn1 aI mode1 n1 aL)).op=op1:=rfl;rw [Ft,Fu] at rG;obtain ⟨ar,c1,c2,an,av,ay,ax,az⟩:=bI.o.ez
   by_cases h2:op1=2
   ·subst h2;have m6:2≤aq.length:=(kB Bf).vc (.inl rfl);obtain ⟨l,hl⟩:∃ l,aq.length=l + 1:=⟨aq.length - 1,by omega⟩;obtain ⟨b2,eH,rfl,ajF,D8⟩:=hP.ch.dy (by omega);have m4:=D8 l (by omega);have lj:=hP.dy (List.getElem_mem (n:=l) (by omega));have hcap:=hP.ch.cap;have fc:=hP.ch.le;unfold maxLen at hcap;have F3:(MRe.al aq).length - 1=l:=by rw [MRe.ee];omega
    have xO:(MRe.al aq).getD ((MRe.al aq).length - 1) .nil=(aq[l]'(by omega)).ab:=by
     rw [F3,List.getD_eq_getElem?_getD,List.getElem?_eq_getElem (by rw [MRe.ee];omega),Option.getD_some,kQ]
    have o2:(MRe.al aq).take ((MRe.al aq).length - 1)=MRe.al (aq.take l):=by
     rw [F3,MRe.kP,MRe.kP,List.map_take]
    rw [xO,o2] at rG;simp only [true_and] at rG;have rM:(aq.take l).length=l:=by rw [List.length_take];omega
    have xR:gT w (some ⟨b2,eH,none⟩) kc1 (aq.take l):=⟨hP.ch.take l,fun x hx=> hP.dy (List.mem_of_mem_take hx)⟩;have dP:=fun (W:World) (h:I [] w W)=> L3 (some ⟨b2,eH,none⟩) kc1 (aq.take l) W (xR.ah h);rw [rM] at dP;have yp:=C dP;have qB:∀ ae∈df l (some ⟨b2,eH,none⟩) ++ MRe.dN (aq.take l),ae∈(MRe.node 7 sa sc set (some ⟨b1,cR,none⟩) kc kids mn mx mode n false).aw:=fun ae hq=> qA ae (by
     simp only [MRe.aw,List.mem_append]
     rcases List.mem_append.1 hq with h | h
     ·refine .inr (.inl ?_);unfold df at h ⊢;rw [if_neg (by omega)]
      split at h
      ·simp at h
      ·simpa using h
     ·obtain ⟨y,hy,o0⟩:=MRe.tm h;exact .inr (.inr (MRe.mQ (List.mem_of_mem_take hy) o0)))
    have fY:=C qB;have dd:∀ W:World,(Instr.sliceAt 24 (M (some ⟨b2,eH,none⟩) aq.length kc1) none (some (H J l)) none).run Tryz.prog W=.ok (M (some ⟨b2,eH,none⟩) l kc1) W:=by
     intro W;have q1:(l:Int)≤kc1:=by omega
     simp [go_sem,q1]
    have RX:=mS Bf (List.getElem_mem (n:=l) (by omega));have hI:=fun (W:World) (h:I [] w W)=> ac2 (aq[l]'(by omega)) W (lj.ah h) RX.ae;have hK:=fun (W:World) (h:I [] w W)=> CR (aq[l]'(by omega)) W (lj.ah h) RX.ae;obtain ⟨p,hp⟩:∃ p,p=s8 (aq[l]'(by omega)).ab:=⟨_,rfl⟩;obtain ⟨ae,hq⟩:∃ ae,ae=fA (aq[l]'(by omega)).ab:=⟨_,rfl⟩;rw [←hp,←hq] at rG;simp only [←hp] at hI;simp only [←hq] at hK;obtain ⟨cV,hk2⟩:∃ cV,cV=(aq[l]'(by omega)):=⟨_,rfl⟩;rw [←hk2] at m4;simp only [←hk2] at hI hK;obtain ⟨op2,cg,cf,bj,ct,kc2,a8,mn2,bY,bX,bn,bZ⟩:=cV;have g:=m4.node;obtain ⟨bg,aV,a6,bl,bq,bE,bF,bH⟩:=id g;obtain ⟨c6,y1,dp,eb,ef,ej,ek,el⟩:=aH.o.au bg aV a6 bl bq bE bF bH;clear g bg aV a6 bl bq bE bF bH;simp only [MRe.val] at hI hK;have hI:=C hI;have hK:=C hK;have mN:IntKind.i64.wrap ((aq.length:Int) - 1)=(l:Int):=by rw [IntWalk.i64_in _ (by omega)];omega
    have FH:(0:Int)≤(l:Int):=by omega
    have aj9:(l:Int) < (aq.length:Int):=by omega
    have i5:l < aq.length:=by omega
    have BU:=C rG;clear rG Ft Fu hg aO hD iM jf hP Bf RX aJ aj D8 m4 lj hl xR rM xO o2 F3 hp hq hk2 qB qA dP m6 eC lE;go_enter Tryz.func12,Tryz.ntmps12
    go_upto_region 2 with fail
    rw [←c7.o,←aB.o];go_upto_region 38 with fail
    obtain ⟨tk,Co⟩:∃ tk,tk=aE.alloc (bf op2 cg bj cf ct a8 kc2 mn2 bY bX bn bZ):=⟨_,rfl⟩;have hk1:I [] aE tk:=by rw [Co];exact I.a1 _ _
    have rE:tk.heap[aE.heap.size]? =some (bf op2 cg bj cf ct a8 kc2 mn2 bY bX bn bZ):=by rw [Co];exact heap_alloc_new aE _
    rw [←Co];have ec:=C hk1;obtain ⟨fs,zP⟩:∃ fs,fs=aE.heap.size:=⟨_,rfl⟩;rw [←zP] at rE ⊢;clear c6 y1 dp eb ef ej ek el;obtain ⟨c6,y1,dp,eb,ef,ej,ek,el⟩:=eR rE;clear Co hk1 zP rE ar c1 c2 an av ay ax az bK d1 d2 bL bO bT bU bV;go_wp2_with fail
    refine Calls.mono (hI.o _ (aH.o.trans ec.o)) ?_;rintro e w3 ⟨rfl,aP⟩;have aR:=C (ec.o.trans aP);obtain ⟨u0,u1,u2,u3,u4,u5,u6,u7⟩:=aP.au c6 y1 dp eb ef ej ek el;clear aP c6 y1 dp eb ef ej ek el hI
    cases p with
    | false=>
     have aD:=C (show R=none by rw [BU.o,if_neg (fun h=> by cases h.1)]);clear u0 u1 u2 u3 u4 u5 u6 u7;obtain ⟨c6,y1,dp,eb,ef,ej,ek,el,oh⟩:=ew (aR.o.h lA.o);obtain ⟨z0,z1,z2,z3,z4,z5,b9,cc,cj,cw,bQ⟩:=gR aB.o aH.o aR.o ba.o;go_wp2;refine rt cw.o ?_;exact dc.dL aD.o rfl bQ.o
    | true=>
     go_wp2_with fail
     refine Calls.mono (hK.o _ (aH.o.trans aR.o)) ?_;rintro e w4 ⟨rfl,bc⟩;have cl:=C (aR.o.trans bc);clear bc u0 u1 u2 u3 u4 u5 u6 u7 hK
     cases ae with
     | false=>
      have aD:=C (show R=none by rw [BU.o,if_neg (fun h=> by cases h.2)]);obtain ⟨c6,y1,dp,eb,ef,ej,ek,el,oh⟩:=ew (cl.o.h lA.o);obtain ⟨z0,z1,z2,z3,z4,z5,b9,cc,cj,cw,bQ⟩:=gR aB.o aH.o cl.o ba.o;go_wp2;refine rt cw.o ?_;exact dc.dL aD.o rfl bQ.o
     | true=>
      have aD:=C (show R=some (gE 7 [im 2 (MRe.al (aq.take l))]) by rw [BU.o];simp);go_wp2_with fail
      refine Calls.mono (yp.o _ (aH.o.trans cl.o)) ?_;rintro e bS ⟨s,rfl,eE,gp,hk5,ig⟩;have dr:=C (cl.o.trans hk5);obtain ⟨c0,gh⟩:∃ c0,c0=s:=⟨_,rfl⟩;rw [←gh] at eE gp ig;have Hi:=C gh;have vH:=C eE;have Q8:=C gp;have M7:=C ig;clear hk5 gh eE gp ig;obtain ⟨bA,bB,bC,bD,bs,bt,bu,bo,bx,bw,bp,bz⟩:=s;simp only [MRe.val];have ND:=(I.a1 bS (bf bA bB bD bC bs bu bt bo bx bw bp bz)).heap (dr.o.h jc.o) (by simp);have yG:=h6 ND;obtain ⟨dv,dI,ea,fo,gO,ha,hb,hd⟩:=eR ND;have aez:=C ND;have ga:=C (heap_alloc_new bS (bf bA bB bD bC bs bu bt bo bx bw bp bz));clear ND;go_upto_region 40 with fail
      obtain ⟨ak,cY⟩:∃ ak,ak=(bS.alloc (bf bA bB bD bC bs bu bt bo bx bw bp bz)).setCell ⟨U,2,none⟩ (M (some ⟨bS.heap.size,0,none⟩) 1 1):=⟨_,rfl⟩;rw [←cY];have dh:I [U] (bS.alloc (bf bA bB bD bC bs bu bt bo bx bw bp bz)) ak:=by rw [cY];exact (I.refl [U] _).setCell (p:=⟨U,2,none⟩) (.inl (by simp)) _
      have Fs:ak.heap[U]? =some (.cells #[H J 7,M sa set.length sc,M (some ⟨bS.heap.size,0,none⟩) 1 1,H J mn,H J mx,H J mode,H J n,F false] 26 (0,0)):=by rw [cY];exact heap_setCell_same _ U 2 _ _ _ aez.o
      obtain ⟨v0,v1,v2,v3,v4,v5,v6,v7⟩:=eR Fs;have si:w.heap.size≤U:=by rw [aB.o];exact Nat.le_refl _
      have nK:U + 2≤bS.heap.size:=Nat.le_trans hC.o dr.o.size;have ub:=(dr.o.trans (I.a1 bS (bf bA bB bD bC bs bu bt bo bx bw bp bz)));have Hc:=C (show I [] w ak from (aH.o.trans ub).cn dh (by intro x hx;simp at hx;subst hx;exact .inr si));have As:ak.heap[U + 1]? =some cO:=dh.heap (ub.h ba.o) (by simp);obtain ⟨z0,z1,z2,z3,z4,z5,b9,cc,cj⟩:=ew As;have Kp:ak.heap[bS.heap.size]? =some (bf bA bB bD bC bs bu bt bo bx bw bp bz):=dh.heap ga.o (by simp;omega);have aQ:=eU.o;have F1:c0.aK ak:=(Q8.o.ah (I.a1 bS _)).bG dh fun b ad=> by have:=aQ b (fY.o b (M7.o b ad));have:=aB.o;simp;omega
      have DX:MRe.aK ak (.node 7 sa sc set (some ⟨bS.heap.size,0,none⟩) 1 [c0] mn mx mode n false):=.hR (fp.o.ah Hc.o) ⟨hH.kq (kids:=[c0]) Kp (by rw [Hi.o];simp [fX,MRe.row]) (by simp [maxLen]),fun x hx=> by
       simp only [List.mem_cons,List.not_mem_nil,or_false] at hx;subst hx;exact F1⟩
      have K1:du (U + 2) (MRe.node 7 sa sc set (some ⟨b1,cR,none⟩) kc kids mn mx mode n false).aw (MRe.node 7 sa sc set (some ⟨bS.heap.size,0,none⟩) 1 [c0] mn mx mode n false).aw:=fun ae hq=> by
       simp only [MRe.aw,MRe.dN,List.mem_append,List.not_mem_nil,or_false] at hq
       rcases hq with h | h | h
       ·exact .inl (hL.o ae (by simpa [MRe.aw] using h))
       ·simp [df] at h;subst h;exact .inr nK
       ·exact .inl (fY.o ae (M7.o ae h))
      obtain ⟨aY,cm,fy,gB⟩:=nd aB.o Hc.o (I.refl [] ak) As DX K1 eU.o;have eo:=C aY;have ey:=C cm;have fS:=C fy;have fT:=C gB;clear aY cm fy gB cY dh Fs As DX K1 yG dv dI ea fo gO ha hb hd F1 Kp aQ ub nK si;go_wp2;refine rt eo.o ?_;exact dc.iI (.node 7 sa sc set (some ⟨bS.heap.size,0,none⟩) 1 [c0] mn mx mode n false) (by
       rw [aD.o,←vH.o]
       show some (gE 7 [c0.ab])=some (.node 7 set [c0.ab] mn mx mode n false)
       rw [aeL.o,AR.o.1,AR.o.2.1,AR.o.2.2,aeM.o];rfl) rfl ey.o fS.o fT.o
   ·have Fl:(op1==2)=false:=by simpa using h2
    have aD:=C (show R=none by rw [rG,if_neg (fun h=> h2 h.1)]);clear rG Ft Fu hg aO hD iM jf hP Bf aJ aj qA eC lE;go_enter Tryz.func12,Tryz.ntmps12
    go_upto_region 2 with fail
    rw [←c7.o,←aB.o];obtain ⟨c6,y1,dp,eb,ef,ej,ek,el,oh⟩:=ew (hj.o.h lA.o);obtain ⟨z0,z1,z2,z3,z4,z5,b9,cc,cj,cw,bQ⟩:=gR aB.o aH.o hj.o ba.o;go_wp2;refine rt cw.o ?_;exact dc.dL aD.o rfl bQ.o
 ·have aD:=C (aC.trans (O7 (op:=op) (set:=set) (kids:=MRe.al kids) (mn:=mn) (mx:=mx) (mode:=mode) (n:=n) (neg:=neg) (fun h=> absurd h h7)));have m5:(op==7)=false:=by simpa using h7
  clear aC aj aJ eC;obtain ⟨ar,c1,c2,an,av,ay,ax,az⟩:=bI.o.ez;go_enter Tryz.func12,Tryz.ntmps12
  go_upto_region 2 with fail
  rw [←c7.o,←aB.o];obtain ⟨c6,y1,dp,eb,ef,ej,ek,el,oh⟩:=ew (hj.o.h lA.o);obtain ⟨z0,z1,z2,z3,z4,z5,b9,cc,cj,cw,bQ⟩:=gR aB.o aH.o hj.o ba.o;go_wp2;refine rt cw.o ?_;exact dc.dL aD.o rfl bQ.o
theorem amX (m:MRe) (w:World) (aj:m.aK w) (aJ:m.ab.dE):
  Calls Tryz.prog 12 #[H J 7,m.val] w (dc w m.aw (CM m.ab)):=by
 obtain ⟨R,aC⟩:∃ R,R=CM m.ab:=⟨_,rfl⟩;rw [←aC];obtain ⟨op,sa,sc,set,ka,kc,kids,mn,mx,mode,n,neg⟩:=m;have eC:=kB aJ;obtain ⟨U,cd⟩:∃ U,U=w.heap.size:=⟨_,rfl⟩;obtain ⟨aE,cz,iy,aW,j8,cZ,cq⟩:=Bb w (.node op sa sc set ka kc kids mn mx mode n neg) 26;simp only [MRe.row] at cz;rw [←cd] at iy aW j8 cZ;have aB:=C cd;have c7:=C cz;have bI:=C iy;have ba:=C aW;have lA:=C j8;have aH:=C cq;clear cd cz iy aW j8 cq;have hC:=C cZ;have eU:=C aj.fi;have hj:=C (I.refl [] aE);have dW:=C (show R=if op=4∧mn=1∧mx=1∧mode≠2 then some ((MRe.al kids).getD 0 .nil) else none from aC);simp only [MRe.val];clear aC cZ
 by_cases a1:op=4
 ·by_cases a2:mn=1
  ·by_cases a3:mx=1
   ·by_cases a4:mode=2
    ·have aD:=C (show R=none from dW.o.trans (if_neg (fun h=> h.2.2.2 a4)));subst a1 a2 a3 a4;clear aj aJ eC dW;obtain ⟨ar,c1,c2,an,av,ay,ax,az⟩:=bI.o.ez;go_enter Tryz.func12,Tryz.ntmps12
     go_upto_region 2 with fail
     rw [←c7.o,←aB.o];obtain ⟨c6,y1,dp,eb,ef,ej,ek,el,oh⟩:=ew (hj.o.h lA.o);obtain ⟨z0,z1,z2,z3,z4,z5,b9,cc,cj,cw,bQ⟩:=gR aB.o aH.o hj.o ba.o;go_wp2;refine rt cw.o ?_;exact dc.dL aD.o rfl bQ.o
    ·have lE:kids.length=1:=eC.hone (.inl a1);have l7:0 < kids.length:=by omega
     have hln:(0:Int) < (kids.length:Int):=by omega
     obtain ⟨b1,cR,dq,rfl,iM,hD,jf,hP⟩:=aj.kids.head l7;obtain ⟨r,aO⟩:=oJ hD;have aD:=C (show R=some dq.ab by rw [dW.o,if_pos ⟨a1,a2,a3,a4⟩,aO];rfl);have iP:=C (show du (U + 2) (MRe.node op sa sc set (some ⟨b1,cR,none⟩) kc kids mn mx mode n neg).aw dq.aw from du.rR (mF iM));have ahF:(mode==2)=false:=by simpa using a4
     have apE:(mode !=2)=true:=by simpa using a4
     subst a1 a2 a3;obtain ⟨op1,aM,aN,set1,aS,kc1,aq,mn1,aI,mode1,n1,aL⟩:=dq;have jq:=C hP;have g:=jf.node;obtain ⟨bg,aV,a6,bl,bq,bE,bF,bH⟩:=id g;obtain ⟨bK,d1,d2,bL,bO,bT,bU,bV⟩:=aH.o.au bg aV a6 bl bq bE bF bH;obtain ⟨z0,z1,z2,z3,z4,z5,b9,cc,cj⟩:=ew ba.o;obtain ⟨aY,cm,fy,gB⟩:=nd aB.o aH.o hj.o ba.o (jq.o.ah aH.o) iP.o eU.o;have eo:=C aY;have ey:=C cm;have fS:=C fy;have fT:=C gB;clear g bg aV a6 bl bq bE bF bH iM hD jf hP aO lE aj aJ eC aY cm fy gB dW;obtain ⟨ar,c1,c2,an,av,ay,ax,az⟩:=bI.o.ez;go_enter Tryz.func12,Tryz.ntmps12
     go_upto_region 2 with fail
     rw [←c7.o,←aB.o];go_wp2;refine rt eo.o ?_;exact dc.iI (.node op1 aM aN set1 aS kc1 aq mn1 aI mode1 n1 aL) aD.o rfl ey.o fS.o fT.o
   ·have aD:=C (show R=none from dW.o.trans (if_neg (fun h=> a3 h.2.2.1)));have ad:(mx !=1)=true:=by simpa using a3
    have m5:(mx==1)=false:=by simpa using a3
    subst a1 a2;clear aj aJ eC dW;obtain ⟨ar,c1,c2,an,av,ay,ax,az⟩:=bI.o.ez;go_enter Tryz.func12,Tryz.ntmps12
    go_upto_region 2 with fail
    rw [←c7.o,←aB.o];obtain ⟨c6,y1,dp,eb,ef,ej,ek,el,oh⟩:=ew (hj.o.h lA.o);obtain ⟨z0,z1,z2,z3,z4,z5,b9,cc,cj,cw,bQ⟩:=gR aB.o aH.o hj.o ba.o;go_wp2;refine rt cw.o ?_;exact dc.dL aD.o rfl bQ.o
  ·have aD:=C (show R=none from dW.o.trans (if_neg (fun h=> a2 h.2.1)));have ad:(mn !=1)=true:=by simpa using a2
   have m5:(mn==1)=false:=by simpa using a2
   subst a1;clear aj aJ eC dW;obtain ⟨ar,c1,c2,an,av,ay,ax,az⟩:=bI.o.ez;go_enter Tryz.func12,Tryz.ntmps12
   go_upto_region 2 with fail
   rw [←c7.o,←aB.o];obtain ⟨c6,y1,dp,eb,ef,ej,ek,el,oh⟩:=ew (hj.o.h lA.o);obtain ⟨z0,z1,z2,z3,z4,z5,b9,cc,cj,cw,bQ⟩:=gR aB.o aH.o hj.o ba.o;go_wp2;refine rt cw.o ?_;exact dc.dL aD.o rfl bQ.o
 ·have aD:=C (show R=none from dW.o.trans (if_neg (fun h=> a1 h.1)));have ad:(op !=4)=true:=by simpa using a1
  have m5:(op==4)=false:=by simpa using a1
  clear aj aJ eC dW;obtain ⟨ar,c1,c2,an,av,ay,ax,az⟩:=bI.o.ez;go_enter Tryz.func12,Tryz.ntmps12
  go_upto_region 2 with fail
  rw [←c7.o,←aB.o];obtain ⟨c6,y1,dp,eb,ef,ej,ek,el,oh⟩:=ew (hj.o.h lA.o);obtain ⟨z0,z1,z2,z3,z4,z5,b9,cc,cj,cw,bQ⟩:=gR aB.o aH.o hj.o ba.o;go_wp2;refine rt cw.o ?_;exact dc.dL aD.o rfl bQ.o
theorem amP (m:MRe) (w:World) (aj:m.aK w) (aJ:m.ab.dE):
  Calls Tryz.prog 12 #[H J 15,m.val] w (dc w m.aw (CJ m.ab)):=by
 obtain ⟨R,aC⟩:∃ R,R=CJ m.ab:=⟨_,rfl⟩;rw [←aC];obtain ⟨op,sa,sc,set,ka,kc,kids,mn,mx,mode,n,neg⟩:=m;have eC:=kB aJ;obtain ⟨U,cd⟩:∃ U,U=w.heap.size:=⟨_,rfl⟩;obtain ⟨aE,cz,iy,aW,j8,cZ,cq⟩:=Bb w (.node op sa sc set ka kc kids mn mx mode n neg) 26;simp only [MRe.row] at cz;rw [←cd] at iy aW j8 cZ;have aB:=C cd;have c7:=C cz;have bI:=C iy;have ba:=C aW;have lA:=C j8;have aH:=C cq;clear cd cz iy aW j8 cq;have hC:=C cZ;have eU:=C aj.fi;have hj:=C (I.refl [] aE);replace aC:R=if op=9∧kN ((MRe.al kids).getD 0 .nil)=true then some ((MRe.al kids).getD 0 .nil) else none:=aC;simp only [MRe.val];clear cZ
 by_cases a1:op=9
 ·have lE:kids.length=1:=eC.hone (by simp [a1]);have l7:0 < kids.length:=by omega
  have hln:(0:Int) < (kids.length:Int):=by omega
  obtain ⟨b1,cR,dq,rfl,iM,hD,jf,hP⟩:=aj.kids.head l7;obtain ⟨r,aO⟩:=oJ hD;have hg:(MRe.al kids).getD 0 .nil=dq.ab:=by rw [aO];rfl
  rw [hg] at aC;have cW:=fun W (h:I [] w W)=> ac4 dq W (hP.ah h) (mS aJ iM);obtain ⟨ae,hq⟩:∃ ae,ae=kN dq.ab:=⟨_,rfl⟩;simp only [←hq] at cW aC;have iP:=C (show du (U + 2) (MRe.node op sa sc set (some ⟨b1,cR,none⟩) kc kids mn mx mode n neg).aw dq.aw from du.rR (mF iM));subst a1
  cases ae with
  | false=>
   have aD:=C (show R=none from aC.trans (if_neg (fun h=> by cases h.2)));clear aC;obtain ⟨op1,aM,aN,set1,aS,kc1,aq,mn1,aI,mode1,n1,aL⟩:=dq;have g:=jf.node;obtain ⟨bg,aV,a6,bl,bq,bE,bF,bH⟩:=id g;obtain ⟨bK,d1,d2,bL,bO,bT,bU,bV⟩:=aH.o.au bg aV a6 bl bq bE bF bH;simp only [MRe.val] at cW;have cW:=C cW;clear g bg aV a6 bl bq bE bF bH iM hD jf hP aO lE aj aJ eC hg hq;obtain ⟨ar,c1,c2,an,av,ay,ax,az⟩:=bI.o.ez;go_enter Tryz.func12,Tryz.ntmps12
   go_upto_region 2 with fail
   rw [←c7.o,←aB.o];go_wp2_with fail
   refine Calls.mono (cW.o _ aH.o) ?_;rintro e w2 ⟨rfl,hk2⟩;have aU:=C hk2;clear hk2;obtain ⟨c6,y1,dp,eb,ef,ej,ek,el,oh⟩:=ew (aU.o.h lA.o);obtain ⟨z0,z1,z2,z3,z4,z5,b9,cc,cj,cw,bQ⟩:=gR aB.o aH.o aU.o ba.o;go_wp2;refine rt cw.o ?_;exact dc.dL aD.o rfl bQ.o
  | true=>
   have aD:=C (show R=some dq.ab from aC.trans (if_pos ⟨rfl,rfl⟩));clear aC;obtain ⟨op1,aM,aN,set1,aS,kc1,aq,mn1,aI,mode1,n1,aL⟩:=dq;have jq:=C hP;have g:=jf.node;obtain ⟨bg,aV,a6,bl,bq,bE,bF,bH⟩:=id g;obtain ⟨bK,d1,d2,bL,bO,bT,bU,bV⟩:=aH.o.au bg aV a6 bl bq bE bF bH;simp only [MRe.val] at cW;have cW:=C cW;clear g bg aV a6 bl bq bE bF bH iM hD jf hP aO lE aj aJ eC hg hq;obtain ⟨ar,c1,c2,an,av,ay,ax,az⟩:=bI.o.ez;go_enter Tryz.func12,Tryz.ntmps12
   go_upto_region 2 with fail
   rw [←c7.o,←aB.o];go_wp2_with fail
   refine Calls.mono (cW.o _ aH.o) ?_;rintro e w2 ⟨rfl,hk2⟩;have aU:=C hk2;obtain ⟨u0,u1,u2,u3,u4,u5,u6,u7⟩:=aU.o.au ar c1 c2 an av ay ax az;obtain ⟨v0,v1,v2,v3,v4,v5,v6,v7⟩:=aU.o.au bK d1 d2 bL bO bT bU bV;obtain ⟨z0,z1,z2,z3,z4,z5,b9,cc,cj⟩:=ew (aU.o.h ba.o);obtain ⟨aY,cm,fy,gB⟩:=nd aB.o aH.o aU.o ba.o (jq.o.ah (aH.o.trans aU.o)) iP.o eU.o;have eo:=C aY;have ey:=C cm;have fS:=C fy;have fT:=C gB;clear hk2 ar c1 c2 an av ay ax az bK d1 d2 bL bO bT bU bV aY cm fy gB;go_wp2;refine rt eo.o ?_;exact dc.iI (.node op1 aM aN set1 aS kc1 aq mn1 aI mode1 n1 aL) aD.o rfl ey.o fS.o fT.o
 ·have aD:=C (show R=none from aC.trans (if_neg (fun h=> a1 h.1)));clear aC;have ad:(op !=9)=true:=by simpa using a1
  have m5:(op==9)=false:=by simpa using a1
  clear aj aJ eC;obtain ⟨ar,c1,c2,an,av,ay,ax,az⟩:=bI.o.ez;go_enter Tryz.func12,Tryz.ntmps12
  go_upto_region 2 with fail
  rw [←c7.o,←aB.o];obtain ⟨c6,y1,dp,eb,ef,ej,ek,el,oh⟩:=ew (hj.o.h lA.o);obtain ⟨z0,z1,z2,z3,z4,z5,b9,cc,cj,cw,bQ⟩:=gR aB.o aH.o hj.o ba.o;go_wp2;refine rt cw.o ?_;exact dc.dL aD.o rfl bQ.o
theorem amO (m:MRe) (w:World) (aj:m.aK w) (aJ:m.ab.dE):
  Calls Tryz.prog 12 #[H J 14,m.val] w (dc w m.aw (CW m.ab)):=by
 obtain ⟨R,aC⟩:∃ R,R=CW m.ab:=⟨_,rfl⟩;rw [←aC];obtain ⟨op,sa,sc,set,ka,kc,kids,mn,mx,mode,n,neg⟩:=m;have eC:=kB aJ;obtain ⟨U,cd⟩:∃ U,U=w.heap.size:=⟨_,rfl⟩;obtain ⟨aE,cz,iy,aW,j8,cZ,cq⟩:=Bb w (.node op sa sc set ka kc kids mn mx mode n neg) 26;simp only [MRe.row] at cz;rw [←cd] at iy aW j8 cZ;have aB:=C cd;have c7:=C cz;have bI:=C iy;have ba:=C aW;have lA:=C j8;have aH:=C cq;clear cd cz iy aW j8 cq;have hC:=C cZ;have eU:=C aj.fi;have hj:=C (I.refl [] aE);replace aC:R=if op=7∧neg=false∧s8 ((MRe.al kids).getD 0 .nil)=true∧fA ((MRe.al kids).getD 0 .nil)=true then some .nil else none:=aC;simp only [MRe.val];clear cZ
 by_cases a1:op=7
 ·cases neg with
  | true=>
   have aD:=C (show R=none from aC.trans (if_neg (fun h=> by cases h.2.1)));clear aC;subst a1;clear aj aJ eC;obtain ⟨ar,c1,c2,an,av,ay,ax,az⟩:=bI.o.ez;go_enter Tryz.func12,Tryz.ntmps12
   go_upto_region 2 with fail
   rw [←c7.o,←aB.o];obtain ⟨c6,y1,dp,eb,ef,ej,ek,el,oh⟩:=ew (hj.o.h lA.o);obtain ⟨z0,z1,z2,z3,z4,z5,b9,cc,cj,cw,bQ⟩:=gR aB.o aH.o hj.o ba.o;go_wp2;refine rt cw.o ?_;exact dc.dL aD.o rfl bQ.o
  | false=>
   have lE:kids.length=1:=eC.hone (by simp [a1]);have l7:0 < kids.length:=by omega
   have hln:(0:Int) < (kids.length:Int):=by omega
   obtain ⟨b1,cR,dq,rfl,iM,hD,jf,hP⟩:=aj.kids.head l7;obtain ⟨r,aO⟩:=oJ hD;have hg:(MRe.al kids).getD 0 .nil=dq.ab:=by rw [aO];rfl
   rw [hg] at aC;have hI:=fun W (h:I [] w W)=> ac2 dq W (hP.ah h) (mS aJ iM).ae;have hK:=fun W (h:I [] w W)=> CR dq W (hP.ah h) (mS aJ iM).ae;obtain ⟨p,hp⟩:∃ p,p=s8 dq.ab:=⟨_,rfl⟩;obtain ⟨ae,hq⟩:∃ ae,ae=fA dq.ab:=⟨_,rfl⟩;simp only [←hp] at hI aC;simp only [←hq] at hK aC;subst a1;obtain ⟨op1,aM,aN,set1,aS,kc1,aq,mn1,aI,mode1,n1,aL⟩:=dq;have g:=jf.node;obtain ⟨bg,aV,a6,bl,bq,bE,bF,bH⟩:=id g;obtain ⟨bK,d1,d2,bL,bO,bT,bU,bV⟩:=aH.o.au bg aV a6 bl bq bE bF bH;simp only [MRe.val] at hI hK;have hI:=C hI;have hK:=C hK;clear g bg aV a6 bl bq bE bF bH iM hD jf hP aO lE aj aJ eC hg hp hq;have dW:=C aC;clear aC;obtain ⟨ar,c1,c2,an,av,ay,ax,az⟩:=bI.o.ez;go_enter Tryz.func12,Tryz.ntmps12
   go_upto_region 2 with fail
   rw [←c7.o,←aB.o];go_wp2_with fail
   refine Calls.mono (hI.o _ aH.o) ?_;rintro e w2 ⟨rfl,hk2⟩;have aU:=C hk2;obtain ⟨u0,u1,u2,u3,u4,u5,u6,u7⟩:=aU.o.au ar c1 c2 an av ay ax az;obtain ⟨v0,v1,v2,v3,v4,v5,v6,v7⟩:=aU.o.au bK d1 d2 bL bO bT bU bV;clear hk2 ar c1 c2 an av ay ax az bK d1 d2 bL bO bT bU bV hI
   cases p with
   | false=>
    have aD:=C (show R=none from dW.o.trans (if_neg (fun h=> by cases h.2.2.1)));obtain ⟨c6,y1,dp,eb,ef,ej,ek,el,oh⟩:=ew (aU.o.h lA.o);obtain ⟨z0,z1,z2,z3,z4,z5,b9,cc,cj,cw,bQ⟩:=gR aB.o aH.o aU.o ba.o;go_wp2;refine rt cw.o ?_;exact dc.dL aD.o rfl bQ.o
   | true=>
    go_wp2_with fail
    refine Calls.mono (hK.o _ (aH.o.trans aU.o)) ?_;rintro e w3 ⟨rfl,aP⟩;have aR:=C (aU.o.trans aP);clear aP u0 u1 u2 u3 u4 u5 u6 u7 v0 v1 v2 v3 v4 v5 v6 v7 hK
    cases ae with
    | false=>
     have aD:=C (show R=none from dW.o.trans (if_neg (fun h=> by cases h.2.2.2)));obtain ⟨c6,y1,dp,eb,ef,ej,ek,el,oh⟩:=ew (aR.o.h lA.o);obtain ⟨z0,z1,z2,z3,z4,z5,b9,cc,cj,cw,bQ⟩:=gR aB.o aH.o aR.o ba.o;go_wp2;refine rt cw.o ?_;exact dc.dL aD.o rfl bQ.o
    | true=>
     obtain ⟨c6,y1,dp,eb,ef,ej,ek,el,oh⟩:=ew (aR.o.h lA.o);have aD:=C (show R=some Tree.nil from dW.o.trans (if_pos (by simp)));obtain ⟨z0,z1,z2,z3,z4,z5,b9,cc,cj⟩:=ew (aR.o.h ba.o);obtain ⟨eo,ey,fS,fT⟩:=Ga (nd (op:=0) (sa:=none) (sc:=0) (set:=[]) (ka:=none) (kc:=0) (kids:=[]) (mn:=0) (mx:=0) (mode:=0) (n:=0) (neg:=false) aB.o aH.o aR.o ba.o (MRe.aK.nil _) (show du (U + 2) (MRe.node 7 sa sc set (some ⟨b1,cR,none⟩) kc kids mn mx mode n false).aw MRe.nil.aw from fun x hx=> by simp [MRe.nil,MRe.aw,MRe.dN,df] at hx) eU.o);go_wp2;refine rt eo.o ?_;exact dc.iI MRe.nil aD.o rfl ey.o fS.o fT.o
 ·have aD:=C (show R=none from aC.trans (if_neg (fun h=> a1 h.1)));clear aC;have ad:(op !=7)=true:=by simpa using a1
  have m5:(op==7)=false:=by simpa using a1
  clear aj aJ eC;obtain ⟨ar,c1,c2,an,av,ay,ax,az⟩:=bI.o.ez;go_enter Tryz.func12,Tryz.ntmps12
  go_upto_region 2 with fail
  rw [←c7.o,←aB.o];obtain ⟨c6,y1,dp,eb,ef,ej,ek,el,oh⟩:=ew (hj.o.h lA.o);obtain ⟨z0,z1,z2,z3,z4,z5,b9,cc,cj,cw,bQ⟩:=gR aB.o aH.o hj.o ba.o;go_wp2;refine rt cw.o ?_;exact dc.dL aD.o rfl bQ.o
end Go.Proofs.YtjnlkjlbejelgaaGreat
