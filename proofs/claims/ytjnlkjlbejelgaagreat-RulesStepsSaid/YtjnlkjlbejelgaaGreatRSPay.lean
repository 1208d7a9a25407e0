/- Part of the proof. No condition: every lemma says its own. -/
import Derived.Test.YtjnlkjlbejelgaaGreatRSPax
namespace Go.Proofs.YtjnlkjlbejelgaaGreat
open Go.RowKit
open Go.Value renaming int→H,slice→M,bool→F
open Go.IntKind renaming i64→J
set_option maxRecDepth 100000
set_option maxHeartbeats 16000000
theorem aop (m:MRe) (w:World) (aj:m.aK w) (aJ:m.ab.dE) (ad:m.ab.bm≤100000):
  Calls Tryz.prog 82 #[m.val] w (dc w m.aw (Bz m.ab)):=by
 obtain ⟨R,aC⟩:∃ R,R=Bz m.ab:=⟨_,rfl⟩;rw [←aC];have eg:=C (O5 122 zi 3 m w aj aJ aiU (fun a b ak b8 ad sM sN=> aoo a b ak b8 ad sM sN));have eX:=C (fun (W:World) (i:Nat) (cS:Option Addr) (l:MRe)=> GH m i (i + 2) cS 1 [l] W);have eU:=C aj.fi;unfold Bz at aC;obtain ⟨j0,hpo⟩:∃ j0,j0=qa zi 3 m.ab:=⟨_,rfl⟩;rw [←hpo] at eg aC;obtain ⟨op,sa,sc,set,ka,kc,kids,mn,mx,mode,n,neg⟩:=m;have fY:=C (lG ad).1;obtain ⟨U,aE,aB,c7,bI,ba,cZ,aH⟩:=rS w op sa sc set ka kc kids mn mx mode n neg;have hC:=C cZ;have ec:=C aj;simp only [MRe.val]
 cases j0 with
 | none=>
  have aD:=C (show R=none from aC);clear aC hpo cZ ad aj aJ;obtain ⟨ar,c1,c2,an,av,ay,ax,az⟩:=bI.o.ez;go_enter Tryz.func82,Tryz.ntmps82
  go_upto_region 1 with fail
  rw [←c7.o,←aB.o];go_wp2_with fail
  refine Calls.mono (eg.o _ aH.o) ?_;intro e w2 jX;obtain ⟨⟨x,rfl⟩,hk2⟩:=jX;have aU:=C hk2;clear hk2;obtain ⟨z0,z1,z2,z3,z4,z5,b9,cc,cj,cw,bQ⟩:=gR aB.o aH.o aU.o ba.o;go_wp2;refine rt cw.o ?_;exact dc.dL aD.o rfl bQ.o
 | some i=>
  obtain ⟨_,aQ,F4⟩:=y8 hpo.symm;replace aQ:i + 1 < (MRe.al kids).length:=aQ;replace F4:zi ((MRe.al kids).getD i .nil) ((MRe.al kids).getD (i + 1) .nil)=true:=F4;rw [MRe.ee] at aQ;have yJ:(MRe.al kids).getD i .nil=(kids[i]'(by omega)).ab:=by rw [List.getD_eq_getElem?_getD,List.getElem?_eq_getElem (by rw [MRe.ee];omega),Option.getD_some,kQ]
  have K2:(MRe.al kids).getD (i + 1) .nil=(kids[i + 1]'(by omega)).ab:=by rw [List.getD_eq_getElem?_getD,List.getElem?_eq_getElem (by rw [MRe.ee];omega),Option.getD_some,kQ]
  replace aC:R=some (hF op (MRe.al kids) i (i + 2) [gE 2 [gE 3 [im 2 (((MRe.al kids).getD i .nil).kids.take (((MRe.al kids).getD i .nil).kids.length - 1)),im 2 (((MRe.al kids).getD (i + 1) .nil).kids.take (((MRe.al kids).getD (i + 1) .nil).kids.length - 1))],s6 ((MRe.al kids).getD i .nil)]]):=aC;rw [yJ,K2] at aC F4;obtain ⟨b,off,rfl,lk,hx⟩:=aj.ch.dy (by omega);have b8:=hx i (by omega);have m5:=hx (i + 1) aQ;have lj:=aj.dy (List.getElem_mem (n:=i) (by omega));have pq:=aj.dy (List.getElem_mem (n:=i + 1) aQ);have DG:=mS aJ (List.getElem_mem (n:=i) (by omega));have yG:=mS aJ (List.getElem_mem (n:=i + 1) aQ);have DF:=mF (op:=op) (sa:=sa) (sc:=sc) (set:=set) (ka:=some ⟨b,off,none⟩) (kc:=kc) (mn:=mn) (mx:=mx) (mode:=mode) (n:=n) (neg:=neg) (List.getElem_mem (l:=kids) (n:=i) (by omega));have HC:=mF (op:=op) (sa:=sa) (sc:=sc) (set:=set) (ka:=some ⟨b,off,none⟩) (kc:=kc) (mn:=mn) (mx:=mx) (mode:=mode) (n:=n) (neg:=neg) (List.getElem_mem (l:=kids) (n:=i + 1) aQ);clear yJ K2 hx
  generalize kids[i]=a at *
  generalize kids[i + 1]=c at *
  obtain ⟨op1,aM,aN,set1,aS,kc1,aq,mn1,aI,mode1,n1,aL⟩:=a;obtain ⟨op2,cg,cf,bj,ct,kc2,a8,mn2,bY,bX,bn,bZ⟩:=c;simp only [zi,Bool.and_eq_true,beq_iff_eq] at F4;have h1:op1=2:=F4.1;have h2:op2=2:=F4.2.1;obtain ⟨b1,cR,l1,a0,FE,oB,YP,xI,KD,Lj,i1,i2,i3,abc,T4,_⟩:=Ik lj ((kB DG).vc (.inl h1));obtain ⟨b2,eH,l2,ar,FF,m6,_,_,_,_,LL,LM,abm,abn,Ua,_⟩:=Ik pq ((kB yG).vc (.inl h2));subst h1;subst h2;subst FE;subst FF;have Y0:=lj.ch.cap;have NS:=pq.ch.cap;have aka:=lj.ch.le;have ZP:=pq.ch.le;unfold maxLen at Y0 NS;have H6:(aq.take l1).length=l1:=by rw [List.length_take];omega
  have H7:(a8.take l2).length=l2:=by rw [List.length_take];omega
  have hk1:gT w (some ⟨b1,cR,none⟩) kc1 (aq.take l1):=⟨lj.ch.take l1,fun x hx=> lj.dy (List.mem_of_mem_take hx)⟩;have hk2:gT w (some ⟨b2,eH,none⟩) kc2 (a8.take l2):=⟨pq.ch.take l2,fun x hx=> pq.dy (List.mem_of_mem_take hx)⟩;have hB:=fun (W:World) (h:I [] w W)=> Ir 2 (some ⟨b1,cR,none⟩) kc1 (aq.take l1) W (hk1.ah h);have kV:=fun (W:World) (h:I [] w W)=> Ir 2 (some ⟨b2,eH,none⟩) kc2 (a8.take l2) W (hk2.ah h);rw [H6] at hB;rw [H7] at kV;have gQ:∀ W:World,(Instr.sliceAt 24 (M (some ⟨b1,cR,none⟩) aq.length kc1) none (some (H J l1)) none).run Tryz.prog W=.ok (M (some ⟨b1,cR,none⟩) l1 kc1) W:=by
   intro W;have q1:(l1:Int)≤kc1:=by omega
   simp [go_sem,q1]
  have gn:∀ W:World,(Instr.sliceAt 24 (M (some ⟨b2,eH,none⟩) a8.length kc2) none (some (H J l2)) none).run Tryz.prog W=.ok (M (some ⟨b2,eH,none⟩) l2 kc2) W:=by
   intro W;have q1:(l2:Int)≤kc2:=by omega
   simp [go_sem,q1]
  have Kw:R=some (hF op (MRe.al kids) i (i + 2) [gE 2 [gE 3 [im 2 (MRe.al (aq.take l1)),im 2 (MRe.al (a8.take l2))],a0.ab]]):=by
   rw [aC,Lj];have aV:(MRe.ab (.node 2 aM aN set1 (some ⟨b1,cR,none⟩) kc1 aq mn1 aI mode1 n1 aL)).kids=MRe.al aq:=rfl;have a6:(MRe.ab (.node 2 cg cf bj (some ⟨b2,eH,none⟩) kc2 a8 mn2 bY bX bn bZ)).kids=MRe.al a8:=rfl;rw [aV,a6,MRe.ee,MRe.ee,oB,m6,Nat.add_sub_cancel,Nat.add_sub_cancel,Mk,Mk]
  have mq:=C (fun (q0:MRe) (h:q0.ab=hF op (MRe.al kids) i (i + 2) [gE 2 [gE 3 [im 2 (MRe.al (aq.take l1)),im 2 (MRe.al (a8.take l2))],a0.ab]])=> show R=some q0.ab by rw [Kw,h]);have KN:∀ ae∈a0.aw,ae∈(MRe.node op sa sc set (some ⟨b,off,none⟩) kc kids mn mx mode n neg).aw:=fun ae hq=> DF ae (mF YP ae hq);have HE:∀ ae∈df l1 (some ⟨b1,cR,none⟩) ++ MRe.dN (aq.take l1),ae∈(MRe.node op sa sc set (some ⟨b,off,none⟩) kc kids mn mx mode n neg).aw:=fun ae hq=> by
   apply DF
   simp only [MRe.aw,List.mem_append]
   rcases List.mem_append.1 hq with h | h
   ·refine .inr (.inl ?_);unfold df at h ⊢;rw [if_neg (by omega)]
    split at h
    ·simp at h
    ·simpa using h
   ·obtain ⟨y,hy,o0⟩:=MRe.tm h;exact .inr (.inr (MRe.mQ (List.mem_of_mem_take hy) o0))
  have HF:∀ ae∈df l2 (some ⟨b2,eH,none⟩) ++ MRe.dN (a8.take l2),ae∈(MRe.node op sa sc set (some ⟨b,off,none⟩) kc kids mn mx mode n neg).aw:=fun ae hq=> by
   apply HC
   simp only [MRe.aw,List.mem_append]
   rcases List.mem_append.1 hq with h | h
   ·refine .inr (.inl ?_);unfold df at h ⊢;rw [if_neg (by omega)]
    split at h
    ·simp at h
    ·simpa using h
   ·obtain ⟨y,hy,o0⟩:=MRe.tm h;exact .inr (.inr (MRe.mQ (List.mem_of_mem_take hy) o0))
  have pP:=C KN;have mm:=C HE;have rY:=C HF;have GO:=C KD;have ED:=C xI;have r2:=C hB;have k8:=C kV;have p2:=aH.o.cell b8.node.c2 (by simp);have iz:=aH.o.cell m5.node.c2 (by simp);have kn:(0:Int)≤(i:Int):=by omega
  have Ad:(i:Int) < (kids.length:Int):=by omega
  have K7:(0:Int)≤(i:Int) + 1:=by omega
  have Zt:(i:Int) + 1 < (kids.length:Int):=by omega
  have aj0:((i:Int) + 1).toNat=i + 1:=by omega
  have iC:i < kids.length:=by omega
  have mN:IntKind.i64.wrap ((i:Int) + 1)=(i:Int) + 1:=IntWalk.i64_in _ (by have:=fY.o;omega);have CC:IntKind.i64.wrap ((i:Int) + 2)=(i:Int) + 2:=IntWalk.i64_in _ (by have:=fY.o;omega);obtain ⟨sJ,vS⟩:∃ sJ,sJ=a0:=⟨_,rfl⟩;rw [←vS] at mq pP GO;have IH:=C vS;have afc:=C aQ;clear cZ ad aj aJ aC Kw hpo F4 b8 m5 lj pq DG yG DF HC YP xI KD Lj Y0 NS aka ZP H6 H7 hk1 hk2 hB kV KN HE HF vS oB m6 T4 Ua;obtain ⟨ar,c1,c2,an,av,ay,ax,az⟩:=bI.o.ez;go_enter Tryz.func82,Tryz.ntmps82
  go_upto_region 1 with fail
  rw [←c7.o,←aB.o];go_wp2_with fail
  refine Calls.mono (eg.o _ aH.o) ?_;intro e w2 jX;obtain ⟨rfl,hk2⟩:=jX;have ea:=hk2.c c2;have amb:=hk2.c p2;have amG:=hk2.c iz;have bQ:=C hk2;clear hk2 ar c1 c2 an av ay ax az p2 iz eg;go_wp2
  go_quiet (fail)
  have iX:=C (bQ.o.drewN nq);clear ea amb amG bQ
  generalize w2.drewN nq=aA at *
  have vy:=C (aH.o.trans iX.o);go_upto_region 6 with fail
  go_cut [10] (fun iS db=> ∃ eJ,eJ=db∧Hh aA (MRe.node op sa sc set (some ⟨b,off,none⟩) kc kids mn mx mode n neg).aw (U + 2) (gE 3 [im 2 (MRe.al (aq.take l1)),im 2 (MRe.al (a8.take l2))]) iS db)
  case first=>
   go_region_held3 (fun _=> True) (exact trivial)
    (first
     | (go_at_call_of 121 b1;with_reducible refine Calls.mono (r2.o _ (vy.o.trans (by first | exact (I.refl [] aA).drew | exact (I.a1 aA _).drew | exact ((I.refl [] aA).drew).alloc _))) ?_;rintro e w4 ⟨cT,rfl,yO,xT,bc,yH⟩;have cl:=C (show I [] aA w4 from I.trans (by first | exact (I.refl [] aA).drew | exact (I.a1 aA _).drew) bc);have fT:=C bc;have T1:=C yO;have uK:=C xT;have r4:=C yH;obtain ⟨iS,xb⟩:∃ iS,iS=cT:=⟨_,rfl⟩;rw [←xb] at T1 uK r4;have r7:=C xb;(try (with_reducible have Rk:=C (bc.heap (Hn aA cO) (by simp))));(try (with_reducible have z4:=IF (bc.heap (Hn aA cO) (by simp))));clear yO xT bc yH xb;obtain ⟨cK,cL,cM,cN,cD,cE,cF,cG,cI,cH,cu,cJ⟩:=cT;simp only [MRe.val])
     | (go_at_call_of 121 b2;with_reducible refine Calls.mono (k8.o _ (vy.o.trans (by first | exact (cl.o.trans (I.a1 w4 _)) | exact cl.o))) ?_;rintro e bS ⟨s2,rfl,yP,tw,hk5,HD⟩;have dr:=C (show I [] w4 bS from I.trans (by first | exact I.refl [] w4 | exact I.a1 w4 _) hk5);have T2:=C yP;have uL:=C tw;have q4:=C HD;obtain ⟨CS,F0⟩:∃ CS,CS=s2:=⟨_,rfl⟩;rw [←F0] at T2 uL q4;have r8:=C F0;(try (have vJ:=C (hk5.h Rk.o)));(try (with_reducible have vJ:=C (hk5.heap (heap_alloc_new w4 cO) (by simp))));(try (with_reducible have z5:=IF (hk5.heap (fT.o.heap (Hn aA cO) (by simp)) (by simp))));(try (with_reducible have ao8:=IF (hk5.heap (heap_alloc_new w4 cO) (by simp))));clear yP tw hk5 HD F0;obtain ⟨fJ,fK,fL,fM,fC,fD,fE,fF,fH,fG,fm,fI⟩:=s2;simp only [MRe.val]))
   all_goals
    go_wp2;go_meet;have hrow:∀ z,z=(#[H J cK,M cL cN.length cM,M cD cF.length cE,H J cG,H J cI,H J cH,H J cu,F cJ,H J fJ,M fK fM.length fL,M fC fE.length fD,H J fF,H J fH,H J fG,H J fm,F fI]:Array Value)→z.toList=fX [iS,CS]:=fun z aW=> by rw [aW,r7.o,r8.o];rfl
    have Cm:JJ aA w4 bS (MRe.node op sa sc set (some ⟨b,off,none⟩) kc kids mn mx mode n neg).aw (U + 2) iS CS _ _:=⟨cl.o,dr.o,uK.o,uL.o,fun ae hq=> mm.o ae (r4.o ae hq),fun ae hq=> rY.o ae (q4.o ae hq),fun ae hq=> Nat.lt_of_lt_of_le (eU.o ae hq) vy.o.size,Nat.le_trans hC.o iX.o.size,T1.o,T2.o⟩;refine ⟨_,rfl,?_⟩
    with_reducible first
     | exact acX Cm _ (hrow _ rfl)
     | exact acY Cm _ (hrow _ rfl)
     | exact Pe Cm _ (hrow _ rfl) vJ.o (Nat.le_refl _)
     | exact Pe Cm _ (hrow _ rfl) vJ.o cl.o.size
  case rest=>
   obtain ⟨eJ,rfl,g,r,rfl,hat,FZ,mh,pv,kH,hfr⟩:=hcut;have kv:=C (iX.o.trans pv);obtain ⟨ar,c1,c2,an,av,ay,ax,az⟩:=(bI.o.ah kv.o).ez;obtain ⟨CQ,Al⟩:∃ CQ,CQ=r:=⟨_,rfl⟩;rw [←Al] at FZ mh hfr;have BW:=C FZ;have afM:=C mh;have iP:=C hfr;have ag7:=C Al;have KH:=ED.o.ah (aH.o.trans kv.o);obtain ⟨jS,jT,jU,jV,jL,jM,jN,jO,jQ,jP,jg,jR⟩:=a0;obtain ⟨y7,zc,zd,zg,yV,yW,yX,yZ,y2,y0,y5,y4⟩:=r;obtain ⟨bK,d1,d2,bL,bO,bT,bU,bV⟩:=KH.Ns;obtain ⟨ep,aJ,cP,eM,eF,eN,eO,eP⟩:=hat.ez;have hgB:¬ g=U + 1:=by omega
   have uC:=C hgB;have zU:b1 < U:=by rw [aB.o];exact World.block_lt_of_cell? w _ ED.o.node.ar
   have nz:=C zU;clear FZ mh hfr Al KH hat pv hgB zU kH;obtain ⟨iv,xH⟩:∃ iv,iv=eJ.drew:=⟨_,rfl⟩;have yx:=C (show I [] eJ iv by rw [xH];exact (I.refl [] eJ).drew);go_wp2;refine rg (S:=fun w'=> (iK w' U op sa set sc (some ⟨b,off,none⟩) kids kc mn mx mode n neg)∧(w'.cell? ⟨b1,cR + l1 * 8,none⟩=some (H J jS)∧w'.cell? ⟨b1,cR + l1 * 8 + 1,none⟩=some (M jT jV.length jU)∧w'.cell? ⟨b1,cR + l1 * 8 + 2,none⟩=some (M jL jN.length jM)∧w'.cell? ⟨b1,cR + l1 * 8 + 3,none⟩=some (H J jO)∧w'.cell? ⟨b1,cR + l1 * 8 + 4,none⟩=some (H J jQ)∧w'.cell? ⟨b1,cR + l1 * 8 + 5,none⟩=some (H J jP)∧w'.cell? ⟨b1,cR + l1 * 8 + 6,none⟩=some (H J jg)∧w'.cell? ⟨b1,cR + l1 * 8 + 7,none⟩=some (F jR))∧(iK w' g y7 zc zg zd yV yX yW yZ y2 y0 y5 y4)) (fun _ k=> ⟨(k.au ar c1 c2 an av ay ax az),(k.au bK d1 d2 bL bO bT bU bV),(k.au ep aJ cP eM eF eN eO eP)⟩) fun bM aF=> ?_;rw [←xH] at aF ⊢;clear xH;refine ag 0 ?_;refine ag 1 ?_;refine ag 2 ?_;refine ag 3 ?_;refine ag 4 ?_;refine ag 5 ?_;refine ag 6 ?_;refine ag 7 ?_;refine ag 8 ?_;refine bh 9 fun ai af=> ?_;go_simp;have er:=C (yx.o.trans (I.a1 iv (.cells #[H J y7,M zc zg.length zd,M yV yX.length yW,H J yZ,H J y2,H J y0,H J y5,F y4,H J jS,M jT jV.length jU,M jL jN.length jM,H J jO,H J jQ,H J jP,H J jg,F jR] 26)));refine af.out _ _ (bM.o _ er.o) fun aF=> ?_;clear af ai;try go_frame
   refine ag 10 ?_;refine bh 11 fun ai af=> ?_;go_simp;have jD:=C (yx.o.trans (I.a2 iv (.cells #[H J y7,M zc zg.length zd,M yV yX.length yW,H J yZ,H J y2,H J y0,H J y5,F y4,H J jS,M jT jV.length jU,M jL jN.length jM,H J jO,H J jQ,H J jP,H J jg,F jR] 26) (.cells #[H J 2,M none 0 0,M (some ⟨iv.heap.size,0,none⟩) 2 2,H J 0,H J 0,H J 0,H J 0,F false] 26)));refine af.out _ _ (bM.o _ jD.o) fun aF=> ?_;clear af ai;try go_frame
   have lP:=acp (op:=2) (W:=iv) (T:=26) (T':=26) (BW.o.ah yx.o) (GO.o.ah (aH.o.trans (kv.o.trans yx.o))) #[H J y7,M zc zg.length zd,M yV yX.length yW,H J yZ,H J y2,H J y0,H J y5,F y4,H J jS,M jT jV.length jU,M jL jN.length jM,H J jO,H J jQ,H J jP,H J jg,F jR] (by rw [IH.o,ag7.o];rfl);have lP:gT ((iv.alloc (.cells #[H J y7,M zc zg.length zd,M yV yX.length yW,H J yZ,H J y2,H J y0,H J y5,F y4,H J jS,M jT jV.length jU,M jL jN.length jM,H J jO,H J jQ,H J jP,H J jg,F jR] 26)).alloc (.cells #[H J 2,M none 0 0,M (some ⟨iv.heap.size,0,none⟩) 2 2,H J 0,H J 0,H J 0,H J 0,F false] 26)) (some ⟨iv.heap.size + 1,0,none⟩) 1 [.node 2 none 0 [] (some ⟨iv.heap.size,0,none⟩) 2 [CQ,sJ] 0 0 0 0 false]:=lP.ah ⟨rfl,rfl,rfl,Nat.le_refl _,fun _ _ _=> rfl⟩;have hs:=eX.o _ i (some ⟨iv.heap.size + 1,0,none⟩) (.node 2 none 0 [] (some ⟨iv.heap.size,0,none⟩) 2 [CQ,sJ] 0 0 0 0 false) (ec.o.ah (aH.o.trans (kv.o.trans jD.o))) lP (by omega) (by have:=afc.o;show i + 2≤kids.length;omega) (by show 0 < kids.length;omega) (by show kids.length + 1≤1000000;have:=fY.o;omega);rw [show ((i + 2:Nat):Int)=(i:Int) + 2 by omega,List.length_singleton] at hs;have cW:=C hs;have oq:=C (kv.o.trans jD.o);have vs:=C (show ∀ x∈MRe.dN [.node 2 none 0 [] (some ⟨iv.heap.size,0,none⟩) 2 [CQ,sJ] 0 0 0 0 false],x∈(MRe.node op sa sc set (some ⟨b,off,none⟩) kc kids mn mx mode n neg).aw∨U + 2≤x from fun x hx=> by
    simp only [MRe.dN,MRe.aw,List.append_nil,List.mem_append] at hx
    rcases hx with h | h | h | h
    ·simp [df] at h
    ·simp [df] at h;subst h;exact .inr (Nat.le_trans hC.o (Nat.le_trans kv.o.size yx.o.size))
    ·exact iP.o x h
    ·exact .inl (pP.o x h))
   clear lP hs;refine bh 12 fun ai af=> ?_;go_simp
   go_at_call 114
   refine Calls.mono cW.o ?_;rintro e fN ⟨ae,rfl,a7,aT,cU,hqf⟩;have pM:=C cU;have gu:=C (oq.o.trans cU);have dK:=C a7;have dA:=C aT;have et:=C hqf;obtain ⟨q0,bN⟩:∃ q0,q0=ae:=⟨_,rfl⟩;rw [←bN] at dK dA et;have dt:=C bN;clear a7 aT cU hqf bN;obtain ⟨bA,bB,bC,bD,bs,bt,bu,bo,bx,bw,bp,bz⟩:=ae;simp only [MRe.val];have C2:=C (jD.o.trans pM.o);obtain ⟨z0,z1,z2,z3,z4,z5,b9,cc,cj⟩:=ew (gu.o.h ba.o);refine af.out _ _ (bM.o _ C2.o) fun aF=> ?_;clear af ai;try go_frame
   refine ag 13 ?_;refine ag 14 ?_;refine bh 15 fun ai af=> ?_;go_simp;have hgB:=uC.o;have yF:=nz.o;have iW:=C ((C2.o.mono (S':=[U + 1]) (by simp)).trans (jv fN (U + 1) (H J bA) (M bB bD.length bC) (M bs bu.length bt) (H J bo) (H J bx) (H J bw) (H J bp) (F bz)));refine af.out _ _ (⟨⟨iW.o.cell ar (by simp <;> omega),iW.o.cell c1 (by simp <;> omega),iW.o.cell c2 (by simp <;> omega),iW.o.cell an (by simp <;> omega),iW.o.cell av (by simp <;> omega),iW.o.cell ay (by simp <;> omega),iW.o.cell ax (by simp <;> omega),iW.o.cell az (by simp <;> omega)⟩,⟨iW.o.cell bK (by simp <;> omega),iW.o.cell d1 (by simp <;> omega),iW.o.cell d2 (by simp <;> omega),iW.o.cell bL (by simp <;> omega),iW.o.cell bO (by simp <;> omega),iW.o.cell bT (by simp <;> omega),iW.o.cell bU (by simp <;> omega),iW.o.cell bV (by simp <;> omega)⟩,⟨iW.o.cell ep (by simp <;> omega),iW.o.cell aJ (by simp <;> omega),iW.o.cell cP (by simp <;> omega),iW.o.cell eM (by simp <;> omega),iW.o.cell eF (by simp <;> omega),iW.o.cell eN (by simp <;> omega),iW.o.cell eO (by simp <;> omega),iW.o.cell eP (by simp <;> omega)⟩⟩) (fun aF=> ?_);clear af ai;try go_frame
   refine ag 16 ?_;refine dR ?_;have afL:=C (fun (q0:MRe) (h:q0.ab=hF op (MRe.al kids) i (i + 2) (MRe.al [.node 2 none 0 [] (some ⟨iv.heap.size,0,none⟩) 2 [CQ,sJ] 0 0 0 0 false]))=> mq.o q0 (by rw [h];simp only [MRe.al,MRe.ab,afM.o];rfl));clear z0 z1 z2 z3 z4 z5 b9 cc cj ar c1 c2 an av ay ax az bK d1 d2 bL bO bT bU bV ep aJ cP eM eF eN eO eP aF hgB yF mq;have mq:=afL;go_wp2;have hfr:=vp et.o vs.o (Nat.le_trans hC.o oq.o.size);rw [dt.o] at hfr;obtain ⟨aY,cm,fy,gB⟩:=nd aB.o aH.o gu.o ba.o (by rw [←dt.o];exact dA.o) hfr eU.o;refine rt aY ?_;exact dc.iI (.node bA bB bC bD bs bt bu bo bx bw bp bz) (by rw [←dt.o];exact mq.o q0 dK.o) rfl cm fy gB
def rV (r:Nat) (t:Tree):Option Tree:=
 match r with
 | 0=> xd 2 t
 | 1=> xd 3 t
 | 2=> CY t
 | 3=> CX t
 | 4=> uU t
 | 5=> Bz t
 | 6=> AM t
 | 7=> CM t
 | 8=> sq t
 | 9=> uS x8 t
 | 10=> uS x2 t
 | 11=> By t
 | 12=> p0 t
 | 13=> rj t
 | 14=> CW t
 | 15=> CJ t
 | 16=> CN t
 | _=> none
theorem vR (l:List Tree) (i:Nat):(l.getD i .nil).bm≤Tree.ed l + 1:=by
 rw [List.getD_eq_getElem?_getD]
 by_cases h:i < l.length
 ·rw [List.getElem?_eq_getElem h,Option.getD_some]
  have:=Tree.Ff (List.getElem_mem h)
  omega
 ·rw [List.getElem?_eq_none (by omega)]
  show Tree.nil.bm≤_
  have:Tree.nil.bm=1:=rfl
  omega
theorem CG (t:Tree):Tree.ed t.kids + 1≤t.bm:=by
 cases t with
 | node op set kids mn mx mode n neg=> show Tree.ed kids + 1≤1 + set.length + Tree.ed kids;omega
theorem Pv (l:List Tree) (i:Nat):Tree.ed (l.take i)≤Tree.ed l:=by have:=Tree.Hs l i;omega
theorem RM (l:List Tree) (i:Nat):Tree.ed (l.drop i)≤Tree.ed l:=by have:=Tree.Hs l i;omega
theorem Iq (op:Int) (l:List Tree):(im op l).bm≤1 + Tree.ed l:=by
 match l with
 | []=> show 1 + 0 + 0≤1 + 0;omega
 | [x]=> show x.bm≤1 + (x.bm + 0);omega
 | x::y::r=> show 1 + 0 + Tree.ed (x::y::r)≤_;omega
theorem AL (op:Int) (kids:List Tree) (i j:Nat) (l:List Tree):(hF op kids i j l).bm≤1 + 2 * Tree.ed kids + Tree.ed l:=by
 have h:=Iq op (kids.take i ++ (l ++ kids.drop j));rw [Tree.J0,Tree.J0] at h;have h1:=Pv kids i;have h2:=RM kids j;unfold hF;omega
theorem L0 (op:Int) (l:List Tree):(gE op l).bm=1 + Tree.ed l:=by show 1 + 0 + Tree.ed l=_;omega
theorem Y6 (t:Tree):(tY t).bm=t.bm:=by cases t;rfl
theorem Hr (x:Tree):Tree.ed [x]=x.bm:=by show x.bm + 0=_;omega
theorem Nr (x y:Tree):Tree.ed [x,y]=x.bm + y.bm:=by show x.bm + (y.bm + 0)=_;omega
theorem UQ {r:Nat} (aO:r < 17) {t jl:Tree} (h:rV r t=some jl):jl.bm≤8 * t.bm + 100:=by
 have hk:=CG t;obtain rfl | rfl | rfl | rfl | rfl | rfl | rfl | rfl | rfl | rfl | rfl | rfl | rfl | rfl | rfl | rfl | rfl:r=0∨r=1∨r=2∨r=3∨r=4∨r=5∨r=6∨r=7∨r=8∨r=9∨r=10∨r=11∨r=12∨r=13∨r=14∨r=15∨r=16:=by omega
 ·replace h:xd 2 t=some jl:=h;unfold xd at h
  split at h
  ·obtain ⟨i,_,rfl⟩:=Option.map_eq_some_iff.1 h;have h1:=AL t.op t.kids i (i + 1) (t.kids.getD i .nil).kids;have h2:=CG (t.kids.getD i .nil);have h3:=vR t.kids i;omega
  ·cases h
 ·replace h:xd 3 t=some jl:=h;unfold xd at h
  split at h
  ·obtain ⟨i,_,rfl⟩:=Option.map_eq_some_iff.1 h;have h1:=AL t.op t.kids i (i + 1) (t.kids.getD i .nil).kids;have h2:=CG (t.kids.getD i .nil);have h3:=vR t.kids i;omega
  ·cases h
 ·replace h:CY t=some jl:=h;unfold CY at h
  split at h
  ·obtain ⟨i,_,rfl⟩:=Option.map_eq_some_iff.1 h;have h1:=AL 2 t.kids i (i + 1) [];have h2:Tree.ed []=0:=rfl;omega
  ·cases h
 ·replace h:CX t=some jl:=h;unfold CX at h
  split at h
  ·obtain ⟨i,_,rfl⟩:=Option.map_eq_some_iff.1 h;have h1:=AL 3 t.kids i (i + 1) [];have h2:Tree.ed []=0:=rfl;omega
  ·cases h
 ·replace h:uU t=some jl:=h;unfold uU at h;obtain ⟨i,_,rfl⟩:=Option.map_eq_some_iff.1 h;have h1:=AL t.op t.kids i (i + 2) [gE 2 [(t.kids.getD i .nil).kids.getD 0 .nil,gE 3 [im 2 ((t.kids.getD i .nil).kids.drop 1),im 2 ((t.kids.getD (i + 1) .nil).kids.drop 1)]]];rw [Hr,L0,Nr,L0,Nr] at h1;have h2:=vR (t.kids.getD i .nil).kids 0;have h3:=Iq 2 ((t.kids.getD i .nil).kids.drop 1);have h4:=Iq 2 ((t.kids.getD (i + 1) .nil).kids.drop 1);have h5:=RM (t.kids.getD i .nil).kids 1;have eW:=RM (t.kids.getD (i + 1) .nil).kids 1;have h7:=CG (t.kids.getD i .nil);have ix:=CG (t.kids.getD (i + 1) .nil);have lg:=vR t.kids i;have pZ:=vR t.kids (i + 1);omega
 ·replace h:Bz t=some jl:=h;unfold Bz at h;obtain ⟨i,_,rfl⟩:=Option.map_eq_some_iff.1 h;have h1:=AL t.op t.kids i (i + 2) [gE 2 [gE 3 [im 2 ((t.kids.getD i .nil).kids.take ((t.kids.getD i .nil).kids.length - 1)),im 2 ((t.kids.getD (i + 1) .nil).kids.take ((t.kids.getD (i + 1) .nil).kids.length - 1))],s6 (t.kids.getD i .nil)]];rw [Hr,L0,Nr,L0,Nr] at h1;have h2:=vR (t.kids.getD i .nil).kids ((t.kids.getD i .nil).kids.length - 1);have ap9:(s6 (t.kids.getD i .nil)).bm≤Tree.ed (t.kids.getD i .nil).kids + 1:=h2;have h3:=Iq 2 ((t.kids.getD i .nil).kids.take ((t.kids.getD i .nil).kids.length - 1));have h4:=Iq 2 ((t.kids.getD (i + 1) .nil).kids.take ((t.kids.getD (i + 1) .nil).kids.length - 1));have h5:=Pv (t.kids.getD i .nil).kids ((t.kids.getD i .nil).kids.length - 1);have eW:=Pv (t.kids.getD (i + 1) .nil).kids ((t.kids.getD (i + 1) .nil).kids.length - 1);have h7:=CG (t.kids.getD i .nil);have ix:=CG (t.kids.getD (i + 1) .nil);have lg:=vR t.kids i;have pZ:=vR t.kids (i + 1);omega
 ·replace h:AM t=some jl:=h;unfold AM at h;obtain ⟨i,hi,rfl⟩:=Option.map_eq_some_iff.1 h;obtain ⟨_,_,cy⟩:=y8 hi;have h1:=AL t.op t.kids i (i + 2) [.node 1 (nv (t.kids.getD i .nil).set (t.kids.getD (i + 1) .nil).set) [] 0 0 0 0 false];rw [Hr] at h1;have h2:(Tree.node 1 (nv (t.kids.getD i .nil).set (t.kids.getD (i + 1) .nil).set) [] 0 0 0 0 false).bm=1 + (nv (t.kids.getD i .nil).set (t.kids.getD (i + 1) .nil).set).length + 0:=rfl;have h3:(nv (t.kids.getD i .nil).set (t.kids.getD (i + 1) .nil).set).length≤64:=by
   unfold tc at cy;simp only [Bool.and_eq_true,decide_eq_true_eq] at cy;exact cy.2.2
  omega
 ·cases t with
  | node op set kids mn mx mode n neg=>
   replace h:CM (.node op set kids mn mx mode n neg)=some jl:=h;rw [CM] at h
   split at h
   ·cases h
    have h1:=vR kids 0;have hk:Tree.ed kids + 1≤(Tree.node op set kids mn mx mode n neg).bm:=hk;omega
   ·cases h
 ·cases t with
  | node op set kids mn mx mode n neg=>
   replace h:sq (.node op set kids mn mx mode n neg)=some jl:=h;rw [sq] at h
   split at h
   ·cases h
    have h1:=vR kids 0;have h2:=CG (kids.getD 0 .nil);have hk:Tree.ed kids + 1≤(Tree.node op set kids mn mx mode n neg).bm:=hk
    show 1 + 0 + Tree.ed (kids.getD 0 .nil).kids≤_
    omega
   ·cases h
 ·replace h:uS x8 t=some jl:=h;unfold uS at h;obtain ⟨i,_,rfl⟩:=Option.map_eq_some_iff.1 h;have h1:=AL t.op t.kids i (i + 1) [];have h2:Tree.ed []=0:=rfl;omega
 ·replace h:uS x2 t=some jl:=h;unfold uS at h;obtain ⟨i,_,rfl⟩:=Option.map_eq_some_iff.1 h;have h1:=AL t.op t.kids i (i + 1) [];have h2:Tree.ed []=0:=rfl;omega
 ·replace h:By t=some jl:=h;unfold By at h;obtain ⟨i,_,rfl⟩:=Option.map_eq_some_iff.1 h;have h1:=AL t.op t.kids i (i + 2) [.node 4 [] [t.kids.getD i .nil] 1 (-1) 0 0 false];rw [Hr] at h1;have h2:(Tree.node 4 [] [t.kids.getD i .nil] 1 (-1) 0 0 false).bm=1 + 0 + ((t.kids.getD i .nil).bm + 0):=rfl;have h3:=vR t.kids i;omega
 ·cases t with
  | node op set kids mn mx mode n neg=>
   replace h:p0 (.node op set kids mn mx mode n neg)=some jl:=h;rw [p0] at h
   split at h
   ·obtain ⟨i,_,rfl⟩:=Option.map_eq_some_iff.1 h;have h1:=AL 2 kids i (i + 1) [tY (kids.getD i .nil)];rw [Hr,Y6] at h1;have h3:=vR kids i;have hk:Tree.ed kids + 1≤(Tree.node op set kids mn mx mode n neg).bm:=hk;omega
   ·cases h
 ·cases t with
  | node op set kids mn mx mode n neg=>
   replace h:rj (.node op set kids mn mx mode n neg)=some jl:=h;rw [rj] at h
   split at h
   ·cases h
    rw [L0,Hr];have h1:=Iq 2 ((kids.getD 0 .nil).kids.take ((kids.getD 0 .nil).kids.length - 1));have h2:=Pv (kids.getD 0 .nil).kids ((kids.getD 0 .nil).kids.length - 1);have h3:=vR kids 0;have h4:=CG (kids.getD 0 .nil);have hk:Tree.ed kids + 1≤(Tree.node op set kids mn mx mode n neg).bm:=hk;omega
   ·cases h
 ·cases t with
  | node op set kids mn mx mode n neg=>
   replace h:CW (.node op set kids mn mx mode n neg)=some jl:=h;rw [CW] at h
   split at h
   ·cases h
    have h1:Tree.nil.bm=1:=rfl;omega
   ·cases h
 ·cases t with
  | node op set kids mn mx mode n neg=>
   replace h:CJ (.node op set kids mn mx mode n neg)=some jl:=h;rw [CJ] at h
   split at h
   ·cases h
    have h1:=vR kids 0;have hk:Tree.ed kids + 1≤(Tree.node op set kids mn mx mode n neg).bm:=hk;omega
   ·cases h
 ·cases t with
  | node op set kids mn mx mode n neg=>
   replace h:CN (.node op set kids mn mx mode n neg)=some jl:=h;rw [CN] at h
   split at h
   ·cases h
    rw [Y6];have h1:=vR kids 0;have hk:Tree.ed kids + 1≤(Tree.node op set kids mn mx mode n neg).bm:=hk;omega
   ·cases h
theorem acN (r:Nat) (aO:r < 17) (m:MRe) (w:World) (aj:m.aK w) (aJ:m.ab.dE) (ad:m.ab.bm≤100000):
  Calls Tryz.prog (wm r) #[m.val] w (dc w m.aw (rV r m.ab)):=by
 obtain rfl | rfl | rfl | rfl | rfl | rfl | rfl | rfl | rfl | rfl | rfl | rfl | rfl | rfl | rfl | rfl | rfl:r=0∨r=1∨r=2∨r=3∨r=4∨r=5∨r=6∨r=7∨r=8∨r=9∨r=10∨r=11∨r=12∨r=13∨r=14∨r=15∨r=16:=by omega
 ·exact ai8 m w aj ad
 ·exact alD m w aj ad
 ·exact aoM m w aj ad
 ·exact aoD m w aj ad
 ·exact Y5 m w aj aJ ad
 ·exact aop m w aj aJ ad
 ·exact ad3 m w aj aJ ad
 ·exact al3 m w aj aJ
 ·exact aco m w aj aJ
 ·exact aoa m w aj aJ ad
 ·exact alB m w aj aJ ad
 ·exact amt m w aj aJ ad
 ·exact aaq m w aj aJ ad
 ·exact acK m w aj aJ
 ·exact aoh m w aj aJ
 ·exact alv m w aj aJ
 ·exact al9 m w aj aJ
theorem XD (r:Nat) (aO:r < 17):n2 (wm r):=by
 obtain rfl | rfl | rfl | rfl | rfl | rfl | rfl | rfl | rfl | rfl | rfl | rfl | rfl | rfl | rfl | rfl | rfl:r=0∨r=1∨r=2∨r=3∨r=4∨r=5∨r=6∨r=7∨r=8∨r=9∨r=10∨r=11∨r=12∨r=13∨r=14∨r=15∨r=16:=by omega
 ·exact mf Tryz.func77 (by kernel_rfl) rfl
 ·exact mf Tryz.func78 (by kernel_rfl) rfl
 ·exact mf Tryz.func79 (by kernel_rfl) rfl
 ·exact mf Tryz.func80 (by kernel_rfl) rfl
 ·exact mf Tryz.func81 (by kernel_rfl) rfl
 ·exact mf Tryz.func82 (by kernel_rfl) rfl
 ·exact mf Tryz.func83 (by kernel_rfl) rfl
 ·exact mf Tryz.func84 (by kernel_rfl) rfl
 ·exact mf Tryz.func85 (by kernel_rfl) rfl
 ·exact mf Tryz.func86 (by kernel_rfl) rfl
 ·exact mf Tryz.func87 (by kernel_rfl) rfl
 ·exact mf Tryz.func88 (by kernel_rfl) rfl
 ·exact mf Tryz.func89 (by kernel_rfl) rfl
 ·exact mf Tryz.func90 (by kernel_rfl) rfl
 ·exact mf Tryz.func91 (by kernel_rfl) rfl
 ·exact mf Tryz.func92 (by kernel_rfl) rfl
 ·exact mf Tryz.func93 (by kernel_rfl) rfl
theorem ao5 {caps top:Int} (ht:top≤1114111):∀ t:Tree,j2 caps top t=true→t.dE∧t.bm≤65 * dD t:=by
 intro t
 induction t using Tree.nq with
 | h op set kids mn mx mode n neg ih=>
  intro h;simp only [j2,Bool.and_eq_true,Pz,List.all_eq_true] at h;obtain ⟨h1,h2⟩:=h;have hn:r5 op set kids.length mn mx mode n neg:=ai9 ht h1;have tx:set.length≤64:=by
   by_cases ds:op=1
   ·exact (hn.tx ds).2
   ·rw [hn.HU ds];simp
  have hs:∀ l:List Tree,(∀ k∈l,k.dE∧k.bm≤65 * dD k)→Tree.ed l≤65 * dV l:=by
   intro l
   induction l with
   | nil=> intro _;exact Nat.le_refl _
   | cons x r ih2=>
    intro h;have h1:=(h x (by simp)).2;have h2:=ih2 (fun k hk=> h k (by simp [hk]));simp only [dV,Tree.ed];omega
  have hk:=hs kids fun k hk=> ih k hk (h2 k hk);refine ⟨.mk hn fun k hk=> (ih k hk (h2 k hk)).1,?_⟩;simp only [dD,Tree.bm];omega
theorem ya {t:Tree} {cp:Int} {ru:Bool} (h:gZ t cp ru=0):t.dE∧t.bm≤16640∧0≤cp∧cp≤9:=by
 unfold gZ at h
 by_cases h1:256 < dD t∨24 < ev t
 ·rw [if_pos h1] at h;omega
 ·rw [if_neg h1] at h
  by_cases h2:cp < 0∨9 < cp∨j2 cp (if ru then 1114111 else 255) t=false
  ·rw [if_pos h2] at h;omega
  ·have h9:j2 cp (if ru then 1114111 else 255) t=true:=by
    cases hq:j2 cp (if ru then 1114111 else 255) t with
    | true=> rfl
    | false=> exact absurd (.inr (.inr hq)) h2
   have:=ao5 (by cases ru <;> simp) t h9
   exact ⟨this.1,by omega,by omega,by omega⟩
theorem ao1:Tree.nil.dE:=by
 show (Tree.node 0 [] [] 0 0 0 0 false).dE
 refine .mk ⟨by omega,by simp,by simp,by simp,by simp,by simp,by simp,by simp,by simp,by simp,by simp,by simp,by simp⟩ (by simp)
theorem Nl:∀ (path:List Int) {t ae:Tree},t.dE→jW t path=some ae→ae.dE∧ae.bm≤t.bm:=by
 intro path
 induction path with
 | nil=> intro t ae h he;simp only [jW,Option.some.injEq] at he;subst he;exact ⟨h,Nat.le_refl _⟩
 | cons x r ih=>
  intro t ae h he;rw [jW] at he
  split at he
  ·rename_i hx
   have hi:x.toNat < t.kids.length:=by omega
   rw [List.getD_eq_getElem?_getD,List.getElem?_eq_getElem hi,Option.getD_some] at he
   cases t with
   | node op set kids mn mx mode n neg=>
    have hm:kids[x.toNat]'hi∈kids:=List.getElem_mem hi;have h1:=ih (h.dy hm) he;have h2:=Tree.Ff hm;have h3:ae.bm≤(kids[x.toNat]'hi).bm:=h1.2;simp only [Tree.bm];exact ⟨h1.1,by omega⟩
  ·cases he
theorem ahW {path:List Int} {t:Tree} (h:t.dE):((jW t path).getD .nil).dE∧((jW t path).getD .nil).bm≤t.bm:=by
 cases hq:jW t path with
 | none=> exact ⟨ao1,Tree.Xo t⟩
 | some ae=> exact Nl path h hq
theorem Im {lo aG kc:Nat} {src:List Nat} {op mn mx mode n:Int} {neg:Bool} {ks:List MRe} (h:lo≤aG) (hk:∀ k∈ks,du lo src k.aw):du lo src (MRe.node op none 0 [] (some ⟨aG,0,none⟩) kc ks mn mx mode n neg).aw:=fun b ad=> by
 simp only [MRe.aw,List.mem_append] at ad
 rcases ad with ad | ad | ad
 ·simp [df] at ad
 ·unfold df at ad
  split at ad
  ·cases ad
  ·simp at ad;subst ad;exact .inr h
 ·obtain ⟨y,hy,hq⟩:=MRe.tm ad;exact hk y hy b hq
theorem ON {W:World} {T:Nat} {op mn mx mode n:Int} {neg:Bool} {ks:List MRe} {cs:Array Value} (hk:∀ k∈ks,k.aK W) (hc:cs.toList=fX ks) (hn:ks.length≤maxLen):
  MRe.aK (W.alloc (.cells cs T)) (.node op none 0 [] (some ⟨W.heap.size,0,none⟩) ks.length ks mn mx mode n neg):=
 .hR (eK.nil _) ⟨hH.kq (kids:=ks) (heap_alloc_new W _) hc hn,fun x hx=> (hk x hx).ah (I.a1 _ _)⟩
theorem Il (lo hi:Int) (w:World):Calls Tryz.prog 39 #[H J lo,H J hi] w (Dp w [] (vh lo hi)):=by
 go_enter Tryz.func39,Tryz.ntmps39
 go_wp2;refine bodyPost_ret (results_cell_row rfl _ _ w.heap.size 26 #[H J 1,M (some ⟨w.heap.size + 1,0,none⟩) 1 1,M none 0 0,H J 0,H J 0,H J 0,H J 0,F false] (0,0) _ rfl ((I.a1 _ _).heap (heap_alloc_new w _) (by simp)) Tryz.underlying26 rfl mB) rfl ?_;refine ⟨.node 1 (some ⟨w.heap.size + 1,0,none⟩) 1 [(lo,hi)] none 0 [] 0 0 0 0 false,rfl,rfl,.hR (eK.kq (set:=[(lo,hi)]) (heap_alloc2_new w _ _) rfl (by simp [maxLen])) (gT.nil _),I.a2 _ _ _,fun b ad=> .inr (by simp [MRe.aw,MRe.dN,df] at ad;omega)⟩
theorem Eg (m:MRe) (w:World) (aj:m.aK w):Calls Tryz.prog 41 #[m.val] w (Dp w m.aw (nW m.ab)):=by
 obtain ⟨bW,cQ⟩:∃ bW,bW=m:=⟨_,rfl⟩;rw [←cQ] at aj ⊢;have HM:=C cQ;obtain ⟨op,sa,sc,set,ka,kc,kids,mn,mx,mode,n,neg⟩:=m;have da:bW.val=.agg #[H J op,M sa set.length sc,M ka kids.length kc,H J mn,H J mx,H J mode,H J n,F neg]:=by rw [cQ];rfl
 rw [da];have b6:=C aj;clear cQ da aj;go_enter Tryz.func41,Tryz.ntmps41
 go_wp2;refine bodyPost_ret (results_cell_row rfl _ _ (w.heap.size + 1) 26 #[H J 4,M none 0 0,M (some ⟨w.heap.size + 2,0,none⟩) 1 1,H J 0,H J (-1),H J 0,H J 0,F false] (0,0) _ rfl ((I.a1 _ _).heap (heap_alloc2_new w _ _) (by simp)) Tryz.underlying26 rfl mB) rfl ?_;refine ⟨.node 4 none 0 [] (some ⟨w.heap.size + 2,0,none⟩) 1 [bW] 0 (-1) 0 0 false,rfl,rfl,.hR (eK.nil _) ⟨hH.kq (kids:=[bW]) (T:=26) (fz:=(0,0)) (cs:=#[H J op,M sa set.length sc,M ka kids.length kc,H J mn,H J mx,H J mode,H J n,F neg]) ?_ (by rw [HM.o];rfl) (by simp [maxLen]),fun x hx=> ?_⟩,I.a3 _ _ _ _,Im (by omega) fun k hk=> by simp only [List.mem_cons,List.not_mem_nil,or_false] at hk;subst hk;exact du.refl _ _⟩
 ·have h:=heap_alloc_new ((w.alloc (bf op sa set sc ka kids kc mn mx mode n neg)).alloc (.cells #[H J 4,M none 0 0,M (some ⟨w.heap.size + 2,0,none⟩) 1 1,H J 0,H J (-1),H J 0,H J 0,F false] 26)) (bf op sa set sc ka kids kc mn mx mode n neg);rw [show ((w.alloc (bf op sa set sc ka kids kc mn mx mode n neg)).alloc (.cells #[H J 4,M none 0 0,M (some ⟨w.heap.size + 2,0,none⟩) 1 1,H J 0,H J (-1),H J 0,H J 0,F false] 26)).heap.size=w.heap.size + 2 by simp] at h;exact h
 ·simp only [List.mem_cons,List.not_mem_nil,or_false] at hx;subst hx;exact b6.o.ah (I.a3 _ _ _ _)
theorem CH (m1 m2:MRe) (w:World) (aj:m1.aK w) (cV:m2.aK w):Calls Tryz.prog 40 #[m1.val,m2.val] w (Dp w (m1.aw ++ m2.aw) (q9 m1.ab m2.ab)):=by
 obtain ⟨o5,hB⟩:∃ o5,o5=m1:=⟨_,rfl⟩;obtain ⟨o6,kV⟩:∃ o6,o6=m2:=⟨_,rfl⟩;rw [←hB] at aj ⊢;rw [←kV] at cV ⊢;have eo:=C hB;have ey:=C kV;obtain ⟨cK,cL,cM,cN,cD,cE,cF,cG,cI,cH,cu,cJ⟩:=m1;obtain ⟨fJ,fK,fL,fM,fC,fD,fE,fF,fH,fG,fm,fI⟩:=m2;have s3:o5.val=.agg #[H J cK,M cL cN.length cM,M cD cF.length cE,H J cG,H J cI,H J cH,H J cu,F cJ]:=by rw [hB];rfl
 have m9:o6.val=.agg #[H J fJ,M fK fM.length fL,M fC fE.length fD,H J fF,H J fH,H J fG,H J fm,F fI]:=by rw [kV];rfl
 rw [s3,m9];have iL:=C aj;have bQ:=C cV;clear hB kV s3 m9 aj cV;go_enter Tryz.func40,Tryz.ntmps40
 go_wp2;refine bodyPost_ret (results_cell_row rfl _ _ (w.heap.size + 2) 26 #[H J 2,M none 0 0,M (some ⟨w.heap.size + 3,0,none⟩) 2 2,H J 0,H J 0,H J 0,H J 0,F false] (0,0) _ rfl ((I.a1 _ _).heap ?_ (by simp)) Tryz.underlying26 rfl mB) rfl ?_
 ·have h:=heap_alloc_new ((w.alloc (bf cK cL cN cM cD cF cE cG cI cH cu cJ)).alloc (bf fJ fK fM fL fC fE fD fF fH fG fm fI)) (.cells #[H J 2,M none 0 0,M (some ⟨w.heap.size + 3,0,none⟩) 2 2,H J 0,H J 0,H J 0,H J 0,F false] 26);rw [show ((w.alloc (bf cK cL cN cM cD cF cE cG cI cH cu cJ)).alloc (bf fJ fK fM fL fC fE fD fF fH fG fm fI)).heap.size=w.heap.size + 2 by simp] at h;exact h
 refine ⟨.node 2 none 0 [] (some ⟨w.heap.size + 3,0,none⟩) 2 [o5,o6] 0 0 0 0 false,rfl,rfl,.hR (eK.nil _) ⟨hH.kq (kids:=[o5,o6]) (T:=26) (fz:=(0,0)) (cs:=#[H J cK,M cL cN.length cM,M cD cF.length cE,H J cG,H J cI,H J cH,H J cu,F cJ,H J fJ,M fK fM.length fL,M fC fE.length fD,H J fF,H J fH,H J fG,H J fm,F fI]) ?_ (by rw [eo.o,ey.o];rfl) (by simp [maxLen]),fun x hx=> ?_⟩,I.a4 _ _ _ _ _,Im (by omega) fun k hk=> by
  simp only [List.mem_cons,List.not_mem_nil,or_false] at hk
  rcases hk with rfl | rfl
  ·exact du.rR fun b ad=> List.mem_append_left _ ad
  ·exact du.rR fun b ad=> List.mem_append_right _ ad⟩
 ·have h:=heap_alloc_new (((w.alloc (bf cK cL cN cM cD cF cE cG cI cH cu cJ)).alloc (bf fJ fK fM fL fC fE fD fF fH fG fm fI)).alloc (.cells #[H J 2,M none 0 0,M (some ⟨w.heap.size + 3,0,none⟩) 2 2,H J 0,H J 0,H J 0,H J 0,F false] 26)) (.cells #[H J cK,M cL cN.length cM,M cD cF.length cE,H J cG,H J cI,H J cH,H J cu,F cJ,H J fJ,M fK fM.length fL,M fC fE.length fD,H J fF,H J fH,H J fG,H J fm,F fI] 26);rw [show (((w.alloc (bf cK cL cN cM cD cF cE cG cI cH cu cJ)).alloc (bf fJ fK fM fL fC fE fD fF fH fG fm fI)).alloc (.cells #[H J 2,M none 0 0,M (some ⟨w.heap.size + 3,0,none⟩) 2 2,H J 0,H J 0,H J 0,H J 0,F false] 26)).heap.size=w.heap.size + 3 by simp] at h;exact h
 ·simp only [List.mem_cons,List.not_mem_nil,or_false] at hx
  rcases hx with rfl | rfl
  ·exact iL.o.ah (I.a4 _ _ _ _ _)
  ·exact bQ.o.ah (I.a4 _ _ _ _ _)
end Go.Proofs.YtjnlkjlbejelgaaGreat
