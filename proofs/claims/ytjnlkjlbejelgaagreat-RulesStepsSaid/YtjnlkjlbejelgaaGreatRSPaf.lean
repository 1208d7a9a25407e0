/- Part of the proof. No condition: every lemma says its own. -/
import Derived.Defers
import Derived.Recover
import Derived.Maps.RangeWalk
import Derived.Test.YtjnlkjlbejelgaaGreatRSPae
namespace Go.Proofs.YtjnlkjlbejelgaaGreat
open Go.RowKit
open Go.Value renaming int→H,slice→M,bool→F
open Go.IntKind renaming i64→J
set_option maxRecDepth 100000
set_option maxHeartbeats 16000000
theorem Y5 (m:MRe) (w:World) (aj:m.aK w) (aJ:m.ab.dE) (ad:m.ab.bm≤100000):
  Calls Tryz.prog 81 #[m.val] w (dc w m.aw (uU m.ab)):=by
 have HL:n2 119:=mf Tryz.func119 (by kernel_rfl) rfl;obtain ⟨bW,cQ⟩:∃ bW,bW=m:=⟨_,rfl⟩;have eg:=C (fun (W:World) (l5:I [] w W)=> Uz 119 #[] w5 3 m W (I [] W) (fun _=> I [] W) HL (I.refl _ _) (fun ak jB=> aj.ah (l5.trans jB)) (fun _ ak jB=> aj.ah (l5.trans jB)) (fun ak jB=> jB.drew) (fun ak o jB=> jB.alloc o)
  (adO fun a b8 b ad ak jB=> by
   cases m with
   | node op sa sc set ka kc kids mn mx mode n neg=> exact ajO a b ak ((aj.ah (l5.trans jB)).dy b8) ((aj.ah (l5.trans jB)).dy ad) (mS aJ b8) (mS aJ ad)))
 rw [←cQ] at aj aJ ad ⊢;have HM:=C cQ;clear cQ;obtain ⟨op,sa,sc,set,ka,kc,kids,mn,mx,mode,n,neg⟩:=m;have j6:=Hq w (.node op sa sc set ka kc kids mn mx mode n neg) 26;have cq:=I.a2 w (bf op sa set sc ka kids kc mn mx mode n neg) cO;have H9:bW.val=.agg #[H J op,M sa set.length sc,M ka kids.length kc,H J mn,H J mx,H J mode,H J n,F neg]:=by rw [HM.o];rfl
 rw [H9];simp only [MRe.val] at eg;rw [←HM.o] at eg
 cases hpo:qa w5 3 bW.ab with
 | none=>
  have aY:uU bW.ab=none:=by unfold uU;rw [hpo];rfl
  rw [hpo] at eg;have aD:=C aY;obtain ⟨iy,aW,cZ⟩:=j6;obtain ⟨ar,c1,c2,an,av,ay,ax,az⟩:=iy.ez;simp only [MRe.row] at ar c1 c2 an av ay ax az aW;obtain ⟨U,cd⟩:∃ U,U=w.heap.size:=⟨_,rfl⟩;rw [←cd] at ar c1 c2 an av ay ax az aW;have ba:=C aW;have aH:=C cq;clear aY aW cq iy cZ H9 aj aJ ad HL hpo;go_enter Tryz.func81,Tryz.ntmps81
  go_upto_region 1 with fail
  rw [←cd]
  generalize (w.alloc (bf op sa set sc ka kids kc mn mx mode n neg)).alloc cO=aE at *
  have aB:=C cd;clear cd;go_wp2_with fail
  refine Calls.mono (eg.o aE aH.o) ?_;intro e w2 jX;obtain ⟨⟨x,rfl⟩,hk2⟩:=jX;obtain ⟨z0,z1,z2,z3,z4,z5,b9,cc,cj⟩:=ew (hk2.h ba.o);have cw:=C (rm (hk2.h ba.o) (H J 0) (M none 0 0) (M none 0 0) (H J 0) (H J 0) (H J 0) (H J 0) (F false));have bQ:=C ((aH.o.trans hk2).cn (jv w2 (U + 1) (H J 0) (M none 0 0) (M none 0 0) (H J 0) (H J 0) (H J 0) (H J 0) (F false)) (by intro x hx;simp at hx;subst hx;exact .inr (by rw [aB.o];omega)));clear hk2 ar c1 c2 an av ay ax az;go_wp2;refine rt cw.o ?_;exact dc.dL aD.o rfl bQ.o
 | some i=>
  obtain ⟨aV,a6,bl⟩:=y8 hpo;have aY:uU bW.ab=some (hF bW.ab.op bW.ab.kids i (i + 2) [gE 2 [(bW.ab.kids.getD i .nil).kids.getD 0 .nil,gE 3 [im 2 ((bW.ab.kids.getD i .nil).kids.drop 1),im 2 ((bW.ab.kids.getD (i + 1) .nil).kids.drop 1)]]]):=by unfold uU;rw [hpo];rfl
  rw [hpo] at eg;have o2:bW.ab.kids=MRe.al kids:=by rw [HM.o];rfl
  have mL:bW.ab.op=op:=by rw [HM.o];rfl
  rw [o2,mL] at aY;rw [o2] at a6 bl;rw [mL] at aV;subst aV;rw [MRe.ee] at a6;have yJ:(MRe.al kids).getD i .nil=kids[i].ab:=by rw [List.getD_eq_getElem?_getD,List.getElem?_eq_getElem (by rw [MRe.ee];omega),Option.getD_some,kQ]
  have K2:(MRe.al kids).getD (i + 1) .nil=kids[i + 1].ab:=by rw [List.getD_eq_getElem?_getD,List.getElem?_eq_getElem (by rw [MRe.ee];omega),Option.getD_some,kQ]
  rw [yJ,K2] at aY bl;have Gb:=aj;have ai4:=aJ;rw [HM.o] at aj aJ;obtain ⟨b,off,rfl,lk,hx⟩:=aj.ch.dy (by omega);have b8:=hx i (by omega);have m5:=hx (i + 1) a6;have lj:=aj.dy (List.getElem_mem (n:=i) (by omega));have pq:=aj.dy (List.getElem_mem (n:=i + 1) a6);have DG:=mS aJ (List.getElem_mem (n:=i) (by omega));have yG:=mS aJ (List.getElem_mem (n:=i + 1) a6);have hcap:=aj.ch.cap;have fc:=aj.ch.le;unfold maxLen at hcap;have DF:=mF (op:=3) (sa:=sa) (sc:=sc) (set:=set) (ka:=some ⟨b,off,none⟩) (kc:=kc) (mn:=mn) (mx:=mx) (mode:=mode) (n:=n) (neg:=neg) (List.getElem_mem (l:=kids) (n:=i) (by omega));have HC:=mF (op:=3) (sa:=sa) (sc:=sc) (set:=set) (ka:=some ⟨b,off,none⟩) (kc:=kc) (mn:=mn) (mx:=mx) (mode:=mode) (n:=n) (neg:=neg) (List.getElem_mem (l:=kids) (n:=i + 1) a6);rw [←HM.o] at DF HC;clear yJ K2 hx
  generalize kids[i]=a at *
  generalize kids[i + 1]=bb at *
  obtain ⟨op1,aM,aN,set1,aS,kc1,aq,mn1,aI,mode1,n1,aL⟩:=a;obtain ⟨op2,cg,cf,bj,ct,kc2,a8,mn2,bY,bX,bn,bZ⟩:=bb;have xT:op1=2:=by have h:=bl;simp only [w5,Bool.and_eq_true,beq_iff_eq] at h;exact h.1
  have tw:op2=2:=by have h:=bl;simp only [w5,Bool.and_eq_true,beq_iff_eq] at h;exact h.2.1
  subst xT;subst tw;have l1:=(kB DG).vc (.inl rfl);have l2:=(kB yG).vc (.inl rfl);obtain ⟨b1,cR,a0,rfl,ZV,xI,wX,KD⟩:=lj.kids.head (by omega);obtain ⟨b2,eH,b0,rfl,_,_,_,_⟩:=pq.kids.head (by omega);have km:=lj.ch.cap;have tX:=pq.ch.cap;have oB:=lj.ch.le;have m6:=pq.ch.le;unfold maxLen at km tX;have oX:gT w (some ⟨b1,cR + 8,none⟩) (kc1 - 1) (aq.drop 1):=⟨by have h:=lj.ch.drop 1 (by omega);rw [if_neg (by omega),Nat.one_mul] at h;exact h,fun x hx=> lj.dy (List.mem_of_mem_drop hx)⟩;have zZ:gT w (some ⟨b2,eH + 8,none⟩) (kc2 - 1) (a8.drop 1):=⟨by have h:=pq.ch.drop 1 (by omega);rw [if_neg (by omega),Nat.one_mul] at h;exact h,fun x hx=> pq.dy (List.mem_of_mem_drop hx)⟩;have hB:=fun (W:World) (h:I [] w W)=> Ir 2 (some ⟨b1,cR + 8,none⟩) (kc1 - 1) (aq.drop 1) W (oX.ah h);have kV:=fun (W:World) (h:I [] w W)=> Ir 2 (some ⟨b2,eH + 8,none⟩) (kc2 - 1) (a8.drop 1) W (zZ.ah h);have gQ:∀ W:World,(Instr.sliceAt 24 (M (some ⟨b1,cR,none⟩) aq.length kc1) (some (H J 1)) none none).run Tryz.prog W=.ok (M (some ⟨b1,cR + 8,none⟩) (aq.length - 1) (kc1 - 1)) W:=by
   intro W;have q1:(1:Int)≤aq.length:=by omega
   have q2:¬ kc1=1:=by omega
   simp [go_sem,q1,q2]
  have gn:∀ W:World,(Instr.sliceAt 24 (M (some ⟨b2,eH,none⟩) a8.length kc2) (some (H J 1)) none none).run Tryz.prog W=.ok (M (some ⟨b2,eH + 8,none⟩) (a8.length - 1) (kc2 - 1)) W:=by
   intro W;have q1:(1:Int)≤a8.length:=by omega
   have q2:¬ kc2=1:=by omega
   simp [go_sem,q1,q2]
  have Kw:uU bW.ab=some (hF 3 (MRe.al kids) i (i + 2) [gE 2 [a0.ab,gE 3 [im 2 (MRe.al (aq.drop 1)),im 2 (MRe.al (a8.drop 1))]]]):=by
   rw [aY];obtain ⟨r,aO⟩:=oJ xI;have aV:(MRe.ab (.node 2 aM aN set1 (some ⟨b1,cR,none⟩) kc1 aq mn1 aI mode1 n1 aL)).kids=MRe.al aq:=rfl;have a6:(MRe.ab (.node 2 cg cf bj (some ⟨b2,eH,none⟩) kc2 a8 mn2 bY bX bn bZ)).kids=MRe.al a8:=rfl;rw [aV,a6,MRe.kP (aq.drop 1),MRe.kP (a8.drop 1),List.map_drop,List.map_drop,←MRe.kP,←MRe.kP];rw [aO]
   rfl
  have aD:=C Kw;have KN:∀ ae∈a0.aw,ae∈bW.aw:=fun ae hq=> DF ae (mF ZV ae hq);have HE:∀ ae∈df (aq.drop 1).length (some ⟨b1,cR + 8,none⟩) ++ MRe.dN (aq.drop 1),ae∈bW.aw:=fun ae hq=> by
   apply DF
   simp only [MRe.aw,List.mem_append]
   rcases List.mem_append.1 hq with h | h
   ·refine .inr (.inl ?_);unfold df at h ⊢;rw [if_neg (by omega)]
    split at h
    ·simp at h
    ·simpa using h
   ·obtain ⟨y,hy,o0⟩:=MRe.tm h;exact .inr (.inr (MRe.mQ (List.mem_of_mem_drop hy) o0))
  have HF:∀ ae∈df (a8.drop 1).length (some ⟨b2,eH + 8,none⟩) ++ MRe.dN (a8.drop 1),ae∈bW.aw:=fun ae hq=> by
   apply HC
   simp only [MRe.aw,List.mem_append]
   rcases List.mem_append.1 hq with h | h
   ·refine .inr (.inl ?_);unfold df at h ⊢;rw [if_neg (by omega)]
    split at h
    ·simp at h
    ·simpa using h
   ·obtain ⟨y,hy,o0⟩:=MRe.tm h;exact .inr (.inr (MRe.mQ (List.mem_of_mem_drop hy) o0))
  have hbk:bW.kids.length + 1≤1000000:=by
   rw [HM.o] at ad ⊢
   have:=(lG ad).1
   show kids.length + 1≤1000000
   omega
  have gY:=fun (W:World) (h:I [] w W) (cS:Option Addr) (l:MRe) (hl:gT W cS 1 [l])=> GH bW i (i + 2) cS 1 [l] W (Gb.ah h) hl (by omega) (by rw [HM.o];show i + 2≤kids.length;omega) (by rw [HM.o];show 0 < kids.length;omega) hbk;rw [H9,mL,o2] at gY;simp only [show ((i + 2:Nat):Int)=(i:Int) + 2 by omega,List.length_singleton] at gY;have eX:=C gY;have pP:=C KN;rw [List.length_drop] at HE HF;have mm:=C HE;have rY:=C HF;have GO:=C KD;have eU:=C Gb.fi;rw [List.length_drop] at hB kV;have r2:=C hB;have k8:=C kV;obtain ⟨iy,aW,cZ⟩:=j6;obtain ⟨ar,c1,c2,an,av,ay,ax,az⟩:=iy.ez;simp only [MRe.row] at ar c1 c2 an av ay ax az aW cZ iy;have p2:=b8.node.c2;have iz:=m5.node.c2;have aqu:0 < aq.length:=by omega
  have aqt:(0:Int) < (aq.length:Int):=by omega
  have kn:(0:Int)≤(i:Int):=by omega
  have Ad:(i:Int) < (kids.length:Int):=by omega
  have K7:(0:Int)≤(i:Int) + 1:=by omega
  have Zt:(i:Int) + 1 < (kids.length:Int):=by omega
  have aj0:((i:Int) + 1).toNat=i + 1:=by omega
  have iC:i < kids.length:=by omega
  have TR:IntKind.i64.wrap (i:Int)=(i:Int):=IntWalk.i64_in _ (by omega);have mN:IntKind.i64.wrap ((i:Int) + 1)=(i:Int) + 1:=IntWalk.i64_in _ (by omega);have CC:IntKind.i64.wrap ((i:Int) + 2)=(i:Int) + 2:=IntWalk.i64_in _ (by omega);obtain ⟨U,cd⟩:∃ U,U=w.heap.size:=⟨_,rfl⟩;rw [←cd] at ar c1 c2 an av ay ax az aW cZ iy;have bI:=C iy;have ba:=C aW;have aH:=C cq;have aav:=cq.c p2;have Lr:=cq.c iz;have ED:=C wX;obtain ⟨sJ,vS⟩:∃ sJ,sJ=a0:=⟨_,rfl⟩;rw [←vS] at aD pP GO ED;have ao9:=C vS;clear aY Kw aW cq iy H9 aj aJ ad HL hpo a6 bl Gb ai4 m5 b8 lj pq DG yG DF HC l1 l2 ZV xI wX KD km tX oB m6 oX zZ hB kV KN HE HF hbk gY p2 iz o2 mL vS;go_enter Tryz.func81,Tryz.ntmps81
  go_upto_region 1 with fail
  rw [←cd]
  generalize (w.alloc (bf 3 sa set sc (some ⟨b,off,none⟩) kids kc mn mx mode n neg)).alloc cO=aE at *
  have aB:=C cd;clear cd;go_wp2_with fail
  refine Calls.mono (eg.o aE aH.o) ?_;intro e w2 jX;obtain ⟨rfl,hk2⟩:=jX;have ea:=hk2.c c2;have p2:=hk2.c aav;have iz:=hk2.c Lr;have bQ:=C hk2;clear hk2 ar c1 c2 an av ay ax az aav Lr eg;go_wp2
  go_quiet (fail)
  have iX:=C (bQ.o.drewN nq);clear ea p2 iz bQ
  generalize w2.drewN nq=aA at *
  have vy:=C (aH.o.trans iX.o);go_upto_region 5 with fail
  go_cut [8] (fun Mc db=> ∃ eJ,eJ=db∧Hh aA bW.aw (U + 2) (gE 3 [im 2 (MRe.al (aq.drop 1)),im 2 (MRe.al (a8.drop 1))]) Mc db)
  case first=>
   go_region_held3 (fun _=> True) (exact trivial)
    (first
     | (go_at_call_of 121 b1;with_reducible refine Calls.mono (r2.o _ (vy.o.trans (by first | exact (I.refl [] aA).drew | exact (I.a1 aA _).drew | exact ((I.refl [] aA).drew).alloc _))) ?_;rintro e w4 ⟨cT,rfl,yO,xT,bc,yH⟩;have cl:=C (show I [] aA w4 from I.trans (by first | exact (I.refl [] aA).drew | exact (I.a1 aA _).drew) bc);have fT:=C bc;have T1:=C yO;have uK:=C xT;have r4:=C yH;obtain ⟨iS,xb⟩:∃ iS,iS=cT:=⟨_,rfl⟩;rw [←xb] at T1 uK r4;have r7:=C xb;(try (with_reducible have Rk:=C (bc.heap (Hn aA cO) (by simp))));(try (with_reducible have z4:=IF (bc.heap (Hn aA cO) (by simp))));clear yO xT bc yH xb;obtain ⟨cK,cL,cM,cN,cD,cE,cF,cG,cI,cH,cu,cJ⟩:=cT;simp only [MRe.val])
     | (go_at_call_of 121 b2;with_reducible refine Calls.mono (k8.o _ (vy.o.trans (by first | exact (cl.o.trans (I.a1 w4 _)) | exact cl.o))) ?_;rintro e bS ⟨s2,rfl,yP,tw,hk5,HD⟩;have dr:=C (show I [] w4 bS from I.trans (by first | exact I.refl [] w4 | exact I.a1 w4 _) hk5);have T2:=C yP;have uL:=C tw;have q4:=C HD;obtain ⟨CS,F0⟩:∃ CS,CS=s2:=⟨_,rfl⟩;rw [←F0] at T2 uL q4;have r8:=C F0;(try (have vJ:=C (hk5.h Rk.o)));(try (with_reducible have vJ:=C (hk5.heap (heap_alloc_new w4 cO) (by simp))));(try (with_reducible have z5:=IF (hk5.heap (fT.o.heap (Hn aA cO) (by simp)) (by simp))));(try (with_reducible have ao8:=IF (hk5.heap (heap_alloc_new w4 cO) (by simp))));clear yP tw hk5 HD F0;obtain ⟨fJ,fK,fL,fM,fC,fD,fE,fF,fH,fG,fm,fI⟩:=s2;simp only [MRe.val]))
   all_goals
    go_wp2;go_meet;have hrow:∀ z,z=(#[H J cK,M cL cN.length cM,M cD cF.length cE,H J cG,H J cI,H J cH,H J cu,F cJ,H J fJ,M fK fM.length fL,M fC fE.length fD,H J fF,H J fH,H J fG,H J fm,F fI]:Array Value)→z.toList=fX [iS,CS]:=fun z aW=> by rw [aW,r7.o,r8.o];rfl
    have Cm:JJ aA w4 bS bW.aw (U + 2) iS CS _ _:=⟨cl.o,dr.o,uK.o,uL.o,fun ae hq=> mm.o ae (r4.o ae hq),fun ae hq=> rY.o ae (q4.o ae hq),fun ae hq=> Nat.lt_of_lt_of_le (eU.o ae hq) vy.o.size,by have:=iX.o.size;omega,T1.o,T2.o⟩;refine ⟨_,rfl,?_⟩
    with_reducible first
     | exact acX Cm _ (hrow _ rfl)
     | exact acY Cm _ (hrow _ rfl)
     | exact Pe Cm _ (hrow _ rfl) vJ.o (Nat.le_refl _)
     | exact Pe Cm _ (hrow _ rfl) vJ.o cl.o.size
  case rest=>
   obtain ⟨eJ,rfl,g,r,rfl,hat,FZ,mh,pv,kH,hfr⟩:=hcut;have LO:=iX.o.trans pv;have LR:=aH.o.trans LO;have jF:=C LR;have YL:=LO.h ba.o;obtain ⟨ar,c1,c2,an,av,ay,ax,az⟩:=(bI.o.ah LO).ez;have KH:=ED.o.ah LR;have YM:=GO.o.ah LR;have ajs:U + 2≤eJ.heap.size:=Nat.le_trans cZ LO.size;obtain ⟨CQ,Al⟩:∃ CQ,CQ=r:=⟨_,rfl⟩;rw [←Al] at FZ mh hfr;have DW:=acp (op:=2) (T:=26) (T':=26) YM FZ;obtain ⟨W3,NP⟩:∃ W3,W3=sJ:=⟨_,rfl⟩;rw [←NP] at DW;have Vk:=C NP;obtain ⟨jS,jT,jU,jV,jL,jM,jN,jO,jQ,jP,jg,jR⟩:=sJ;obtain ⟨y7,zc,zd,zg,yV,yW,yX,yZ,y2,y0,y5,y4⟩:=r;obtain ⟨bK,d1,d2,bL,bO,bT,bU,bV⟩:=KH.Ns;obtain ⟨ep,aJ,cP,eM,eF,eN,eO,eP⟩:=hat.ez;have aaf:=DW #[H J jS,M jT jV.length jU,M jL jN.length jM,H J jO,H J jQ,H J jP,H J jg,F jR,H J y7,M zc zg.length zd,M yV yX.length yW,H J yZ,H J y2,H J y0,H J y5,F y4] (by rw [NP,Al];rfl);have rP:=(I.a2 eJ (.cells #[H J jS,M jT jV.length jU,M jL jN.length jM,H J jO,H J jQ,H J jP,H J jg,F jR,H J y7,M zc zg.length zd,M yV yX.length yW,H J yZ,H J y2,H J y0,H J y5,F y4] 26) (.cells #[H J 2,M none 0 0,M (some ⟨eJ.heap.size,0,none⟩) 2 2,H J 0,H J 0,H J 0,H J 0,F false] 26)).drew;have cW:=C (eX.o _ (LR.trans rP) _ _ aaf);have MZ:=C (rP.h YL);have VL:=C rP;have mq:=C mh;have iP:=C hfr;have zU:¬ b1=U + 1:=by have h1:=World.block_lt_of_cell? w _ ED.o.node.ar;have h2:=aB.o;simp only at h1;omega
   have hgB:¬ g=U + 1:=by omega
   clear DW aaf NP Al FZ mh hfr kH pv LO LR YL KH YM rP hat ED GO;go_wp2
   go_region_held3 (fun w'=> (iK w' U 3 sa set sc (some ⟨b,off,none⟩) kids kc mn mx mode n neg)∧(w'.cell? ⟨b1,cR,none⟩=some (H J jS)∧w'.cell? ⟨b1,cR + 1,none⟩=some (M jT jV.length jU)∧w'.cell? ⟨b1,cR + 2,none⟩=some (M jL jN.length jM)∧w'.cell? ⟨b1,cR + 3,none⟩=some (H J jO)∧w'.cell? ⟨b1,cR + 4,none⟩=some (H J jQ)∧w'.cell? ⟨b1,cR + 5,none⟩=some (H J jP)∧w'.cell? ⟨b1,cR + 6,none⟩=some (H J jg)∧w'.cell? ⟨b1,cR + 7,none⟩=some (F jR))∧(iK w' g y7 zc zg zd yV yX yW yZ y2 y0 y5 y4))
    (with_reducible first
     | exact ⟨⟨((I.refl [] eJ).drew).c ar,((I.refl [] eJ).drew).c c1,((I.refl [] eJ).drew).c c2,((I.refl [] eJ).drew).c an,((I.refl [] eJ).drew).c av,((I.refl [] eJ).drew).c ay,((I.refl [] eJ).drew).c ax,((I.refl [] eJ).drew).c az⟩,⟨((I.refl [] eJ).drew).c bK,((I.refl [] eJ).drew).c d1,((I.refl [] eJ).drew).c d2,((I.refl [] eJ).drew).c bL,((I.refl [] eJ).drew).c bO,((I.refl [] eJ).drew).c bT,((I.refl [] eJ).drew).c bU,((I.refl [] eJ).drew).c bV⟩,⟨((I.refl [] eJ).drew).c ep,((I.refl [] eJ).drew).c aJ,((I.refl [] eJ).drew).c cP,((I.refl [] eJ).drew).c eM,((I.refl [] eJ).drew).c eF,((I.refl [] eJ).drew).c eN,((I.refl [] eJ).drew).c eO,((I.refl [] eJ).drew).c eP⟩⟩
     | exact ⟨⟨((I.a1 eJ _).drew).c ar,((I.a1 eJ _).drew).c c1,((I.a1 eJ _).drew).c c2,((I.a1 eJ _).drew).c an,((I.a1 eJ _).drew).c av,((I.a1 eJ _).drew).c ay,((I.a1 eJ _).drew).c ax,((I.a1 eJ _).drew).c az⟩,⟨((I.a1 eJ _).drew).c bK,((I.a1 eJ _).drew).c d1,((I.a1 eJ _).drew).c d2,((I.a1 eJ _).drew).c bL,((I.a1 eJ _).drew).c bO,((I.a1 eJ _).drew).c bT,((I.a1 eJ _).drew).c bU,((I.a1 eJ _).drew).c bV⟩,⟨((I.a1 eJ _).drew).c ep,((I.a1 eJ _).drew).c aJ,((I.a1 eJ _).drew).c cP,((I.a1 eJ _).drew).c eM,((I.a1 eJ _).drew).c eF,((I.a1 eJ _).drew).c eN,((I.a1 eJ _).drew).c eO,((I.a1 eJ _).drew).c eP⟩⟩
     | exact ⟨⟨((I.a2 eJ _ _).drew).c ar,((I.a2 eJ _ _).drew).c c1,((I.a2 eJ _ _).drew).c c2,((I.a2 eJ _ _).drew).c an,((I.a2 eJ _ _).drew).c av,((I.a2 eJ _ _).drew).c ay,((I.a2 eJ _ _).drew).c ax,((I.a2 eJ _ _).drew).c az⟩,⟨((I.a2 eJ _ _).drew).c bK,((I.a2 eJ _ _).drew).c d1,((I.a2 eJ _ _).drew).c d2,((I.a2 eJ _ _).drew).c bL,((I.a2 eJ _ _).drew).c bO,((I.a2 eJ _ _).drew).c bT,((I.a2 eJ _ _).drew).c bU,((I.a2 eJ _ _).drew).c bV⟩,⟨((I.a2 eJ _ _).drew).c ep,((I.a2 eJ _ _).drew).c aJ,((I.a2 eJ _ _).drew).c cP,((I.a2 eJ _ _).drew).c eM,((I.a2 eJ _ _).drew).c eF,((I.a2 eJ _ _).drew).c eN,((I.a2 eJ _ _).drew).c eO,((I.a2 eJ _ _).drew).c eP⟩⟩
     | exact ⟨(er.o.au ar c1 c2 an av ay ax az),(er.o.au bK d1 d2 bL bO bT bU bV),(er.o.au ep aJ cP eM eF eN eO eP)⟩
     | exact ⟨(jD.o.au ar c1 c2 an av ay ax az),⟨jD.o.cell bK (by simp;exact zU),jD.o.cell d1 (by simp;exact zU),jD.o.cell d2 (by simp;exact zU),jD.o.cell bL (by simp;exact zU),jD.o.cell bO (by simp;exact zU),jD.o.cell bT (by simp;exact zU),jD.o.cell bU (by simp;exact zU),jD.o.cell bV (by simp;exact zU)⟩,⟨jD.o.cell ep (by simp;exact hgB),jD.o.cell aJ (by simp;exact hgB),jD.o.cell cP (by simp;exact hgB),jD.o.cell eM (by simp;exact hgB),jD.o.cell eF (by simp;exact hgB),jD.o.cell eN (by simp;exact hgB),jD.o.cell eO (by simp;exact hgB),jD.o.cell eP (by simp;exact hgB)⟩⟩
     | fail)
    (first
     | (go_at_call 114;with_reducible refine Calls.mono cW.o ?_;rintro e gW ⟨ae,rfl,a7,aT,gX,hqf⟩;have er:=C (VL.o.trans gX);have uG:=C (gX.h MZ.o);have dK:=C a7;have dA:=C aT;have et:=C hqf;obtain ⟨q0,bN⟩:∃ q0,q0=ae:=⟨_,rfl⟩;rw [←bN] at dK dA et;have dt:=C bN;have IG:=ew uG.o;clear a7 aT gX hqf bN;obtain ⟨bA,bB,bC,bD,bs,bt,bu,bo,bx,bw,bp,bz⟩:=ae;simp only [MRe.val];have jD:=C (show I [U + 1] eJ (hE gW (U + 1) (H J bA) (M bB bD.length bC) (M bs bu.length bt) (H J bo) (H J bx) (H J bw) (H J bp) (F bz)) from (er.o.mono (by simp)).trans (jv _ _ _ _ _ _ _ _ _ _))))
   have Cq:∀ x∈q0.aw,(x∈bW.aw∨U + 2≤x):=fun x hx=> by
    rcases et.o x hx with h | h
    ·rcases List.mem_append.1 h with h | h
     ·exact .inl h
     ·simp only [MRe.aw,MRe.dN,List.mem_append,List.not_mem_nil,or_false] at h
      rcases h with h | h | h | h
      ·simp [df] at h
      ·simp [df] at h;subst h;exact .inr ajs
      ·exact .inl (pP.o x (by rw [←Vk.o];exact h))
      ·exact iP.o x h
    ·have:=VL.o.size
     exact .inr (by omega)
   have akO:=aB.o;have hnb:∀ x∈q0.aw,x ∉ [U + 1]:=fun x hx=> by
    rcases Cq x hx with h | h
    ·have:=eU.o x h;simp;omega
    ·simp;omega
   have aY:=C (rm uG.o (H J bA) (M bB bD.length bC) (M bs bu.length bt) (H J bo) (H J bx) (H J bw) (H J bp) (F bz));have cm:=C (dA.o.bG (jv gW (U + 1) (H J bA) (M bB bD.length bC) (M bs bu.length bt) (H J bo) (H J bx) (H J bw) (H J bp) (F bz)) hnb);have fy:=C (jF.o.cn jD.o (by intro x hx;simp at hx;subst hx;exact .inr (by omega)));have Cr:uU bW.ab=some q0.ab:=by
    rw [aD.o,dK.o,←Vk.o];simp only [MRe.al,MRe.ab,mq.o]
    rfl
   have GW:=C Cr;have I6:=C (show du w.heap.size bW.aw q0.aw from fun x hx=> by
    rcases Cq x hx with h | h
    ·exact .inl h
    ·exact .inr (by omega))
   clear Cq akO hnb Cr IG ar c1 c2 an av ay ax az bK d1 d2 bL bO bT bU bV ep aJ cP eM eF eN eO eP;go_wp2;refine rt aY.o ?_;exact dc.iI q0 GW.o (by rw [dt.o];rfl) cm.o fy.o I6.o
def Mi:Array Value:=#[.string ⟨#[102,108,97,116]⟩,.func (Fn.func 77) #[] #[],.string ⟨#[109,101,114,103,101]⟩,.func (Fn.func 78) #[] #[],.string ⟨#[117,110,105,116]⟩,.func (Fn.func 79) #[] #[],.string ⟨#[116,119,105,110]⟩,.func (Fn.func 80) #[] #[],.string ⟨#[104,101,97,100]⟩,.func (Fn.func 81) #[] #[],.string ⟨#[116,97,105,108]⟩,.func (Fn.func 82) #[] #[],.string ⟨#[117,110,105,111,110]⟩,.func (Fn.func 83) #[] #[],.string ⟨#[111,110,99,101]⟩,.func (Fn.func 84) #[] #[],.string ⟨#[110,101,115,116]⟩,.func (Fn.func 85) #[] #[],.string ⟨#[115,116,97,114,115]⟩,.func (Fn.func 86) #[] #[],.string ⟨#[109,97,121,98,101]⟩,.func (Fn.func 87) #[] #[],.string ⟨#[112,108,117,115]⟩,.func (Fn.func 88) #[] #[],.string ⟨#[104,111,108,100]⟩,.func (Fn.func 89) #[] #[],.string ⟨#[112,101,101,108]⟩,.func (Fn.func 90) #[] #[],.string ⟨#[115,117,114,101]⟩,.func (Fn.func 91) #[] #[],.string ⟨#[108,111,111,115,101]⟩,.func (Fn.func 92) #[] #[],.string ⟨#[111,119,110]⟩,.func (Fn.func 93) #[] #[]]
def wm (r:Nat):Nat:=[77,78,79,80,81,82,83,84,85,86,87,88,89,90,91,92,93].getD r 0
theorem Ps (w:World):Calls Tryz.prog 45 #[] w fun e w'=> ∃ g,e=.returned (M (some ⟨g,0,none⟩) 17 17)∧w'.heap[g]? =some (.cells Mi 80 (0,0))∧I [] w w'∧w.heap.size≤g:=by
 go_enter Tryz.func45,Tryz.ntmps45
 go_wp2;go_ret;exact ⟨w.heap.size,rfl,heap_alloc_new w _,I.a1 w _,Nat.le_refl _⟩
theorem aon (r:Nat) (h:r < 17):Mi[r * 2 + 1]? =some (.func (Fn.func (wm r)) #[] #[]):=by
 obtain rfl | rfl | rfl | rfl | rfl | rfl | rfl | rfl | rfl | rfl | rfl | rfl | rfl | rfl | rfl | rfl | rfl:r=0∨r=1∨r=2∨r=3∨r=4∨r=5∨r=6∨r=7∨r=8∨r=9∨r=10∨r=11∨r=12∨r=13∨r=14∨r=15∨r=16:=by omega
 all_goals rfl
theorem Pt {w:World} {g:Nat} (h:w.heap[g]? =some (.cells Mi 80 (0,0))) (r:Nat) (aO:r < 17):w.cell? ⟨g,r * 2 + 1,none⟩=some (.func (Fn.func (wm r)) #[] #[]):=by
 simp only [World.cell?,h];exact aon r aO
theorem Xs (p ae:Addr) (w:World):
  CallsD Tryz.prog 44 #[.pointer (some p),.pointer (some ae)] .returning w fun e U2 w'=> e=.returned (.tuple #[])∧U2=.returning∧w'=w:=by
 refine callsD_of_wpS Tryz.func44 rfl fun aiA cs cy=> ?_
 apply wpS_seq
 apply wpS_region
 simp [wpOpsS,go_sem,recoverD,cy,Tryz.ntmps44,Exit.thenS];refine wpS_cond (t:=false) (by simp [Act.eval,Array.replicate]) ?_;simp only [Bool.false_eq_true,if_false];refine wpS_of_wp (wp_skip ?_)
 cases aiA
 simp_all [bodyPostS,results,Tryz.results44]
theorem acZ {P:Program} {fn:Func} {p ae:Tmp} {lT ad1:TypeId} (h:fn.results=#[.cell p lT,.cell ae ad1]) (tmps:Array Value) (w:World) (g:Nat) (t:TypeId) (cs:Array Value) (zM:Nat × Nat) (d:TypeDesc)
  (hp:tmps.getD p undef=.pointer (some ⟨g,0,none⟩)) (hg:w.heap[g]? =some (.cells cs t zM))
  (cy:P.underlying lT=some d) (dB:(match d with | .struct _ | .array _ _=> true | _=> false)=true) (hi:(P.info? lT).map (·.size)=some cs.size)
  (a:Addr) (v:Value) (hq:tmps.getD ae undef=.pointer (some a)) (da:(loadVar ad1 a).run P w=.ok v w):
  (results fn tmps).run P w=.ok (.tuple #[.agg cs,v]) w:=by
 have Lo:tmps[p]?.getD undef=.pointer (some ⟨g,0,none⟩):=by simpa using hp
 have H2:tmps[ae]?.getD undef=.pointer (some a):=by simpa using hq
 simp [results,h,Lo,H2,asAddr,run_loadVar_row w g t lT cs zM d hg cy dB hi,da]
theorem ac7 {w:World} {a:Addr} {b:Bool} (h:w.cell? a=some (F b)):(loadVar 4 a).run Tryz.prog w=.ok (F b) w:=by
 simp [go_sem,h]
def p9:List (Int × Int)→List (Int × Int)→Bool
 | [],_=> false
 | _::_,[]=> false
 | a::tl,b::br=> if a.2 < b.1 then p9 tl (b::br) else if b.2 < a.1 then p9 (a::tl) br else true
termination_by a b=> a.length + b.length
def lenOf:Value→Nat
 | M _ n _=> n
 | _=> 0
theorem eK.tail {w:World} {b off sc:Nat} {x:Int × Int} {l:List (Int × Int)} (h:eK w (some ⟨b,off,none⟩) sc (x::l)):eK w (if sc=1 then some ⟨b,off,none⟩ else some ⟨b,off + 2,none⟩) (sc - 1) l:=by
 have fc:=h.le;have hcap:=h.cap;simp only [List.length_cons] at fc;refine ⟨by omega,by omega,by split <;> simp,fun h0=> ?_⟩;rw [if_neg (by omega)];obtain ⟨iw,off',h1,ad,h2⟩:=h.at_ (by omega)
 cases h1
 refine ⟨b,off + 2,rfl,ad,fun i hi=> ?_⟩
 have:=h2 (i + 1) (by simp only [List.length_cons];omega)
 rw [show off + 2 + i * 2=off + (i + 1) * 2 by omega];exact this
theorem eK.head {w:World} {sa:Option Addr} {sc:Nat} {x:Int × Int} {l:List (Int × Int)} (h:eK w sa sc (x::l)):∃ b off,sa=some ⟨b,off,none⟩∧b < w.heap.size∧w.cell? ⟨b,off,none⟩=some (H J x.1)∧w.cell? ⟨b,off + 1,none⟩=some (H J x.2):=by
 obtain ⟨b,off,h1,ad,h2⟩:=h.at_ (by have:=h.le;simp only [List.length_cons] at this;omega)
 have:=h2 0 (by simp)
 rw [Nat.zero_mul,Nat.add_zero] at this;exact ⟨b,off,h1,ad,this⟩
theorem al8 (aa jy:Option Addr) (ac m0:Nat) (b7 U:List (Int × Int)) (w:World) (b8:eK w aa ac b7) (ad:eK w jy m0 U):
  Calls Tryz.prog 146 #[M aa b7.length ac,M jy U.length m0] w fun e w'=> e=.returned (F (p9 b7 U))∧I [] w w':=by
 have kR:=C b8;have jE:=C ad;clear b8 ad;go_enter Tryz.func146,Tryz.ntmps146
 go_wp2
 go_loopw [0,1] (fun x y wr=> ∃ (aa' Rx:Option Addr) (ac' bc':Nat) (xl yf:List (Int × Int)),x=M aa' xl.length ac'∧y=M Rx yf.length bc'∧eK wr aa' ac' xl∧eK wr Rx bc' yf∧p9 xl yf=p9 b7 U∧I [] w wr) (fun x y _=> lenOf x + lenOf y)
 case atStart=> exact ⟨aa,jy,ac,m0,b7,U,rfl,rfl,kR.o,jE.o,rfl,I.refl _ _⟩
 case round=>
  obtain ⟨aa',Rx,ac',bc',xl,yf,rfl,rfl,eY,gA,ds,hk⟩:=hrel;have b6:=C hk;have apa:=C eY.cap;have apb:=C gA.cap;have gD:=C ds;clear hk ds
  cases xl with
  | nil=>
   have eg:=C (show p9 b7 U=false by rw [←gD.o,p9]);clear eY gA;go_wp2;go_ret;exact ⟨by rw [eg.o];rfl,b6.o⟩
  | cons p xl=>
   cases yf with
   | nil=>
    have eg:=C (show p9 b7 U=false by rw [←gD.o,p9]);have hq:(0:Int) < ((p::xl).length:Int):=by simp only [List.length_cons];omega
    clear eY gA;go_wp2;go_ret;exact ⟨by rw [eg.o];rfl,b6.o⟩
   | cons ae yf=>
    obtain ⟨b1,cR,rfl,gg,fQ,p1⟩:=eY.head;obtain ⟨b2,eH,rfl,iR,q0,q1⟩:=gA.head;have aer:=C eY;have PN:=C gA;have af2:=C eY.tail;have G9:=C gA.tail;have Li:=eY.le;have FH:=gA.le;have ajL:=eY.cap;have NT:=gA.cap;unfold maxLen at ajL NT;obtain ⟨O3,O4⟩:=p;obtain ⟨O8,O9⟩:=ae;simp only at fQ p1 q0 q1;obtain ⟨n,hn⟩:∃ n,n=((O3,O4)::xl).length:=⟨_,rfl⟩;obtain ⟨m,hm⟩:∃ m,m=((O8,O9)::yf).length:=⟨_,rfl⟩;have hB:xl.length=n - 1:=by rw [hn];simp
    have hA:yf.length=m - 1:=by rw [hm];simp
    rw [←hn] at Li ⊢;rw [←hm] at FH ⊢;have iC:0 < n:=by rw [hn];simp
    have cQ:0 < m:=by rw [hm];simp
    have akl:(0:Int) < (n:Int):=by omega
    have aqO:(0:Int) < (m:Int):=by omega
    have gQ:∀ W:World,(Instr.sliceAt 23 (M (some ⟨b1,cR,none⟩) n ac') (some (H J 1)) none none).run Tryz.prog W=.ok (M (if ac'=1 then some ⟨b1,cR,none⟩ else some ⟨b1,cR + 2,none⟩) (n - 1) (ac' - 1)) W:=by
     intro W;have q1:(1:Int)≤n:=by omega
     by_cases q2:ac'=1
     ·subst q2;simp [go_sem,q1]
     ·simp [go_sem,q1,q2]
    have gn:∀ W:World,(Instr.sliceAt 23 (M (some ⟨b2,eH,none⟩) m bc') (some (H J 1)) none none).run Tryz.prog W=.ok (M (if bc'=1 then some ⟨b2,eH,none⟩ else some ⟨b2,eH + 2,none⟩) (m - 1) (bc' - 1)) W:=by
     intro W;have q1:(1:Int)≤m:=by omega
     by_cases q2:bc'=1
     ·subst q2;simp [go_sem,q1]
     ·simp [go_sem,q1,q2]
    have r2:=C hB;have xu:=C hA;have dP:=C hn;have HM:=C hm;clear eY gA hn hm hB hA Li FH
    by_cases h1:O4 < O8
    ·have eg:=C (show p9 xl ((O8,O9)::yf)=p9 b7 U by rw [←gD.o,p9,if_pos h1]);clear gD;go_wp2
     go_quiet (fail)
     go_wp2;go_roundw
     case rel=> exact ⟨_,_,_,_,xl,(O8,O9)::yf,by rw [r2.o],by rw [HM.o],af2.o.ah ((I.refl [] wr).drewN _),PN.o.ah ((I.refl [] wr).drewN _),eg.o,b6.o.drewN _⟩
     case measure=> simp only [lenOf];omega
    ·by_cases h2:O9 < O3
     ·have eg:=C (show p9 ((O3,O4)::xl) yf=p9 b7 U by rw [←gD.o,p9,if_neg h1,if_pos h2]);clear gD;go_wp2
      go_quiet (fail)
      go_wp2
      go_quiet (fail)
      go_wp2;go_roundw
      case rel=> exact ⟨_,_,_,_,(O3,O4)::xl,yf,by rw [dP.o],by rw [xu.o],aer.o.ah ((I.refl [] wr).drewN _),G9.o.ah ((I.refl [] wr).drewN _),eg.o,b6.o.drewN _⟩
      case measure=> simp only [lenOf];omega
     ·have eg:=C (show p9 b7 U=true by rw [←gD.o,p9,if_neg h1,if_neg h2]);clear gD;go_wp2
      go_quiet (fail)
      go_wp2
      go_quiet (fail)
      go_wp2;go_ret;exact ⟨by rw [eg.o];rfl,(b6.o.drewN _).drewN _⟩
mutual
def ow (S:List (Int × Int)):Tree→Bool
 | .node op set kids _ _ _ _ _=>
  if op=1 then p9 set S
  else if op=6 then decide (0 < S.length)
  else if op=2 then q8 S kids
  else if op=3∨op=10∨op=4∨op=5∨op=9 then Fb S kids
  else false
def q8 (S:List (Int × Int)):List Tree→Bool
 | []=> false
 | k::ks=> ow S k || (fA k && q8 S ks)
def Fb (S:List (Int × Int)):List Tree→Bool
 | []=> false
 | k::ks=> ow S k || Fb S ks
end
theorem ah1 (S:List (Int × Int)) (l:List Tree):l.any (ow S)=Fb S l:=by
 induction l with
 | nil=> rfl
 | cons x xs ih=> simp only [List.any_cons,Fb,ih]
theorem aiN:n2 147:=mf Tryz.func147 (by kernel_rfl) rfl
theorem ah0 (m:MRe) (b:Bool) (g:Nat) (sa:Option Addr) (n sc:Nat) (w:World) (hg:w.cell? ⟨g,0,none⟩=some (M sa n sc)) (h:∀ W,I [] w W→Calls Tryz.prog 130 #[m.val,M sa n sc] W fun e w'=> e=.returned (F b)∧I [] W w'):
  Calls Tryz.prog 147 #[m.val,.pointer (some ⟨g,0,none⟩)] w fun e w'=> e=.returned (F b)∧I [] w w':=by
 have AV:=C h;clear h;obtain ⟨op1,aM,aN,set1,aS,kc1,aq,mn1,aI,mode1,n1,aL⟩:=m;simp only [MRe.val] at AV ⊢;have ua:=(I.a1 w (bf op1 aM set1 aN aS aq kc1 mn1 aI mode1 n1 aL)).c hg;go_enter Tryz.func147,Tryz.ntmps147
 go_wp2_with fail
 refine Calls.mono (AV.o _ (I.a1 w _)) ?_;rintro e w2 ⟨rfl,hk⟩;have b6:=C ((I.a1 w _).trans hk);clear hk;go_wp2;go_ret;exact ⟨rfl,b6.o⟩
theorem ah4 (jk:Option Addr) (ki:Nat) (S:List (Int × Int)) (m:MRe):∀ (w:World),m.aK w→eK w jk ki S→
  Calls Tryz.prog 130 #[m.val,M jk S.length ki] w fun e w'=> e=.returned (F (ow S m.ab))∧I [] w w':=by
 induction m using MRe.nq with
 | h op sa sc set ka kc kids mn mx mode n neg ih=>
  intro w aj hS;have hT:ow S (MRe.node op sa sc set ka kc kids mn mx mode n neg).ab=ow S (.node op set (MRe.al kids) mn mx mode n neg):=rfl;rw [hT];have ff:=C (fun k (hk:k∈kids) W (h:I [] w W)=> ih k hk W ((aj.dy hk).ah h) (hS.ah h));have b6:=C aj.kids;have fp:=C aj.nV;have cW:=C hS;have hcap:=aj.ch.cap;have fc:=aj.ch.le;unfold maxLen at hcap;have hM:=C (I.a2 w (bf op sa set sc ka kids kc mn mx mode n neg) (.cells #[M jk S.length ki] 23));clear ih aj hT hS;simp only [MRe.val]
  by_cases h1:op=1
  ·have aY:ow S (.node op set (MRe.al kids) mn mx mode n neg)=p9 set S:=by rw [ow,if_pos h1]
   rw [aY];subst h1;clear aY;go_enter Tryz.func130,Tryz.ntmps130
   go_wp2_with fail
   refine Calls.mono (al8 sa jk sc ki set S _ (fp.o.ah hM.o) (cW.o.ah hM.o)) ?_;rintro e w2 ⟨rfl,hk⟩;have bQ:=C (hM.o.trans hk);clear hk;go_wp2;go_ret;exact ⟨rfl,bQ.o⟩
  ·by_cases eW:op=6
   ·have aY:ow S (.node op set (MRe.al kids) mn mx mode n neg)=decide (0 < S.length):=by rw [ow,if_neg h1,if_pos eW]
    rw [aY];subst eW;clear aY
    by_cases h0:0 < S.length
    ·have R8:(0:Int) < (S.length:Int):=by omega
     go_enter Tryz.func130,Tryz.ntmps130
     go_wp2;go_ret;exact ⟨by simp [h0],hM.o⟩
    ·have R8:S.length=0:=by omega
     go_enter Tryz.func130,Tryz.ntmps130
     go_wp2;go_ret;exact ⟨by simp [h0],I.a2 w _ _⟩
   ·by_cases h2:op=2
    ·have aY:ow S (.node op set (MRe.al kids) mn mx mode n neg)=q8 S (MRe.al kids):=by rw [ow,if_neg h1,if_neg eW,if_pos h2]
     rw [aY];subst h2;clear aY;obtain ⟨U,cd⟩:∃ U,U=w.heap.size:=⟨_,rfl⟩;go_enter Tryz.func130,Tryz.ntmps130
     go_wp2;have ar:((w.alloc (bf 2 sa set sc ka kids kc mn mx mode n neg)).alloc (.cells #[M jk S.length ki] 23)).cell? ⟨U + 1,0,none⟩=some (M jk S.length ki):=by rw [cd];simp
     rw [←cd]
     generalize (w.alloc (bf 2 sa set sc ka kids kc mn mx mode n neg)).alloc (.cells #[M jk S.length ki] 23)=aE at *
     have aB:=C cd;clear cd
     go_loopw [25] (fun i wr=> ∃ k:Nat,k≤kids.length∧i=H J k∧q8 S ((MRe.al kids).drop k)=q8 S (MRe.al kids)∧I [] aE wr) (fun i _=> kids.length - (intOf i).toNat)
     case atStart=> exact ⟨0,Nat.zero_le _,rfl,rfl,I.refl _ _⟩
     case round=>
      obtain ⟨k,hk,rfl,hl,ck⟩:=hrel;have BL:=C hl;have aH:=C ck;have jF:=C (hM.o.trans ck);have dv:=ck.c ar
      by_cases aQ:k < kids.length
      ·obtain ⟨iw,off,rfl,ad,hx⟩:=(b6.o.ah jF.o).ch.dy (by omega);have km:=(b6.o.ah jF.o).all kids[k] (List.getElem_mem aQ);have iU:=C (ff.o kids[k] (List.getElem_mem aQ));have hK:=C (fun W (h:I [] wr W)=> Ej kids[k] W (km.ah h));have dB:q8 S (MRe.al kids)=(ow S kids[k].ab || (fA kids[k].ab && q8 S ((MRe.al kids).drop (k + 1)))):=by rw [←hl,wt kids k aQ,q8]
       obtain ⟨ae,hq⟩:∃ ae,ae=ow S kids[k].ab:=⟨_,rfl⟩;obtain ⟨u,cy⟩:∃ u,u=fA kids[k].ab:=⟨_,rfl⟩;rw [←hq,←cy] at dB;rw [←hq] at iU;rw [←cy] at hK;have gi:=C dB;have eD:=hx k aQ
       generalize kids[k]=dq at *
       obtain ⟨op1,aM,aN,set1,aS,kc1,aq,mn1,aI,mode1,n1,aL⟩:=dq;have g:=eD.node;obtain ⟨bK,d1,d2,bL,bO,bT,bU,bV⟩:=id g;simp only [MRe.val] at iU hK;have c6:=(I.a1 wr (bf op1 aM set1 aN aS aq kc1 mn1 aI mode1 n1 aL)).c dv;clear hq cy dB km hx hl ck ff eD g ar;go_wp2_with fail
       refine Calls.mono (iU.o _ (jF.o.trans (I.a1 wr _))) ?_;rintro e w3 ⟨rfl,aP⟩;have iX:=C ((I.a1 wr (bf op1 aM set1 aN aS aq kc1 mn1 aI mode1 n1 aL)).trans aP);have z:fb w3 wr.heap.size 0 (.node op1 aM aN set1 aS kc1 aq mn1 aI mode1 n1 aL):=fb.ah (fb.box rfl) aP;have g:=z.node;obtain ⟨bg,aV,a6,bl,bq,bE,bF,bH⟩:=id g;simp only [Nat.zero_add] at aV a6 bl bq bE bF bH;clear z g aP c6 dv bK d1 d2 bL bO bT bU bV
       cases ae with
       | true=>
        have rZ:=C (gi.o.trans (Bool.true_or _));clear gi;go_wp2;go_ret;exact ⟨by rw [rZ.o];rfl,jF.o.trans iX.o⟩
       | false=>
        have rZ:=C (gi.o.trans (Bool.false_or _));clear gi;go_wp2_with fail
        refine Calls.mono (hK.o _ iX.o) ?_;rintro e w4 ⟨rfl,bc⟩;have uF:=C (iX.o.trans bc);clear bc
        cases u with
        | true=>
         have PU:=C (rZ.o.trans (Bool.true_and _));clear rZ;go_wp2;go_roundw
         case rel=> exact ⟨k + 1,by omega,by go_num,PU.o.symm,aH.o.trans uF.o⟩
         case measure=> simp [intOf];omega
        | false=>
         have PU:=C (rZ.o.trans (Bool.false_and _));clear rZ;go_wp2;go_ret;exact ⟨by rw [PU.o];rfl,jF.o.trans uF.o⟩
      ·obtain rfl:k=kids.length:=by omega
       have h0:q8 S (MRe.al kids)=false:=by rw [←hl,List.drop_of_length_le (by rw [MRe.ee];omega)];rfl
       have BH:=C h0;clear hl ck h0;go_wp2;go_ret;exact ⟨by rw [BH.o];rfl,jF.o⟩
    ·by_cases eY:op=3∨op=10∨op=4∨op=5∨op=9
     ·have aY:ow S (.node op set (MRe.al kids) mn mx mode n neg)=(MRe.al kids).any (ow S):=by rw [ow,if_neg h1,if_neg eW,if_neg h2,if_pos eY,ah1]
      rw [aY];have m8:∀ (fn:Fn) (first cap:Array Value) (w:World),(Instr.makeFunc fn first cap).run Tryz.prog w=.ok (.func fn first cap) w:=fun _ _ _ _=> rfl;have bI:=C (fun W (g:Nat) (h:I [] w W) (hg:W.cell? ⟨g,0,none⟩=some (M jk S.length ki))=> RK 147 #[.pointer (some ⟨g,0,none⟩)] (ow S) ka kc kids W aiN (b6.o.ah h) fun k hk wO oW=> ah0 k _ g jk S.length ki wO (oW.c hg) fun ic h2=> ff.o k hk ic ((h.trans oW).trans h2));obtain ⟨ae,hq⟩:∃ ae,ae=(MRe.al kids).any (ow S):=⟨_,rfl⟩;rw [←hq] at bI ⊢;clear aY hq ff h1 eW h2
      rcases eY with rfl | rfl | rfl | rfl | rfl
      all_goals
       go_enter Tryz.func130,Tryz.ntmps130
       go_wp2_with fail
       refine Calls.mono (bI.o _ (w.heap.size + 1) hM.o (by simp)) ?_;rintro e w2 ⟨rfl,hk⟩;have b6:=C (hM.o.trans hk);clear hk;go_wp2;go_ret;exact ⟨rfl,b6.o⟩
     ·have aY:ow S (.node op set (MRe.al kids) mn mx mode n neg)=false:=by rw [ow,if_neg h1,if_neg eW,if_neg h2,if_neg eY]
      rw [aY];simp only [not_or] at eY;obtain ⟨cv,OT,eQ,cu,bp⟩:=eY;clear aY;go_enter Tryz.func130,Tryz.ntmps130
      go_wp2;go_ret;exact ⟨rfl,hM.o⟩
theorem aot {P:Program} {fv:Exit→Act→World→Prop} {hZ:Region.Mode} {S:World→Prop} {l r:List Oper} {i:Nat} {jt:Oper} {v:Value} {fuel:Nat} {hY:Array Bool} {a:Act} {w:World}
  (dB:l.drop i=jt::r) (hs:Region.noSelect l.toArray=true) (hf:Region.free hZ l.toArray hY i=true) (aO:(Region.ready hZ l.toArray hY).contains i=true)
  (zQ:∀ c a w,fv (.panic c) (a.put jt.dst v) w→fv (.panic c) a w) (h9:Region.wanted jt (yielded l.toArray a.tmps)=true) (hS:S w)
  (hy:∀ w,S w→(execOp a.eval jt).run P w=.ok (.value v) w)
  (h:wpAnyH P hZ l.toArray fv S fuel (hY.setIfInBounds i true) (a.put jt.dst v) w):wpAnyH P hZ l.toArray fv S (fuel + 1) hY a w:=
 wpAnyH_take (by rw [List.getElem?_toArray,←List.head?_drop,dB];rfl) hs hf aO zQ (Or.inl ⟨h9,hy⟩) hS h
end Go.Proofs.YtjnlkjlbejelgaaGreat
