/- Part of the proof. No condition: every lemma says its own. -/
import Derived.Test.YtjnlkjlbejelgaaGreatRSae
namespace Go.Proofs.YtjnlkjlbejelgaaGreat
open Go.RowKit Go.Sort Go.BigFrame
open Go.Value renaming int→H,slice→M,bool→F
open Go.IntKind renaming i64→J
open Go.RowKit
set_option maxRecDepth 100000
set_option maxHeartbeats 16000000
theorem anh (m1 m2:MRe) (w:World) (aj:m1.aK w) (cV:m2.aK w) (aJ:m1.ab.dE) (cP:m2.ab.dE) (b1:m1.ab.bm≤100000) (b2:m2.ab.bm≤100000):
  Calls Tryz.prog 96 #[H J 4,m1.val,m2.val] w (lb w (m1.aw ++ m2.aw) (if w5 m1.ab m2.ab=true then some [KW m1.ab m2.ab] else none)):=by
 obtain ⟨R,aC⟩:∃ R,R=if w5 m1.ab m2.ab=true then some [KW m1.ab m2.ab] else none:=⟨_,rfl⟩;rw [←aC];obtain ⟨op1,aM,aN,set1,aS,kc1,aq,mn1,aI,mode1,n1,aL⟩:=m1;obtain ⟨op2,cg,cf,bj,ct,kc2,a8,mn2,bY,bX,bn,bZ⟩:=m2;replace aC:R=if (op1==2 && (op2==2 && (wq (MRe.al aq) && DL (MRe.al aq) (MRe.al a8))))=true then some [gE 2 [(MRe.al aq).getD 0 .nil,gE 3 [im 2 ((MRe.al aq).drop 1),im 2 ((MRe.al a8).drop 1)]]] else none:=aC;have o5:=kB aJ;have o6:=kB cP;simp only [MRe.val];obtain ⟨U,aA,ar,c1,c2,an,av,ay,ax,az,bK,d1,d2,bL,bO,bT,bU,bV,dw,aB,aZ⟩:=nc w op1 aM aN set1 aS kc1 aq mn1 aI mode1 n1 aL op2 cg cf bj ct kc2 a8 mn2 bY bX bn bZ
 by_cases h1:op1=2
 ·by_cases h2:op2=2
  ·have l1:=o5.vc (.inl h1);have l2:=o6.vc (.inl h2);obtain ⟨iZ,cR,a,FE,b8,xI,wX,lj⟩:=aj.kids.head (by omega);obtain ⟨sK,eH,b,FF,ad,qA,zV,pq⟩:=cV.kids.head (by omega);subst FE;subst FF;obtain ⟨ju,t1⟩:=oJ xI;obtain ⟨iz,fu⟩:=oJ qA;have oX:=aj.ch.drop 1 (by omega);have zZ:=cV.ch.drop 1 (by omega);have km:=aj.ch.cap;have tX:=cV.ch.cap;have NX:=aj.ch.le;have Fz:=cV.ch.le;unfold maxLen at km tX;rw [if_neg (by omega),Nat.one_mul] at oX zZ;have hk1:gT w (some ⟨iZ,cR + 8,none⟩) (kc1 - 1) (aq.drop 1):=⟨oX,fun x hx=> aj.dy (List.mem_of_mem_drop hx)⟩;have hk2:gT w (some ⟨sK,eH + 8,none⟩) (kc2 - 1) (a8.drop 1):=⟨zZ,fun x hx=> cV.dy (List.mem_of_mem_drop hx)⟩;have hB:=fun (W:World) (h:I [] w W)=> L3 (some ⟨iZ,cR + 8,none⟩) (kc1 - 1) (aq.drop 1) W (hk1.ah h);have kV:=fun (W:World) (h:I [] w W)=> L3 (some ⟨sK,eH + 8,none⟩) (kc2 - 1) (a8.drop 1) W (hk2.ah h);rw [List.length_drop] at hB kV;have gQ:∀ W:World,(Instr.sliceAt 24 (M (some ⟨iZ,cR,none⟩) aq.length kc1) (some (H J 1)) none none).run Tryz.prog W=.ok (M (some ⟨iZ,cR + 8,none⟩) (aq.length - 1) (kc1 - 1)) W:=by
    intro W;have q1:(1:Int)≤aq.length:=by omega
    have q2:¬ kc1=1:=by omega
    simp [go_sem,q1,q2]
   have gn:∀ W:World,(Instr.sliceAt 24 (M (some ⟨sK,eH,none⟩) a8.length kc2) (some (H J 1)) none none).run Tryz.prog W=.ok (M (some ⟨sK,eH + 8,none⟩) (a8.length - 1) (kc2 - 1)) W:=by
    intro W;have q1:(1:Int)≤a8.length:=by omega
    have q2:¬ kc2=1:=by omega
    simp [go_sem,q1,q2]
   have Kk:∀ x∈a.aw,x∈(MRe.node op1 aM aN set1 (some ⟨iZ,cR,none⟩) kc1 aq mn1 aI mode1 n1 aL).aw ++ (MRe.node op2 cg cf bj (some ⟨sK,eH,none⟩) kc2 a8 mn2 bY bX bn bZ).aw:=fun x hx=> List.mem_append_left _ (mF b8 x hx);have DA:=fun ae hq=> List.mem_append_left (MRe.node op2 cg cf bj (some ⟨sK,eH,none⟩) kc2 a8 mn2 bY bX bn bZ).aw (Xz (op:=op1) (sa:=aM) (sc:=aN) (set:=set1) (b:=iZ) (off:=cR) (kc:=kc1) (kids:=aq) (mn:=mn1) (mx:=aI) (mode:=mode1) (n:=n1) (neg:=aL) 1 (by omega) ae hq);have yC:=fun ae hq=> List.mem_append_right (MRe.node op1 aM aN set1 (some ⟨iZ,cR,none⟩) kc1 aq mn1 aI mode1 n1 aL).aw (Xz (op:=op2) (sa:=cg) (sc:=cf) (set:=bj) (b:=sK) (off:=eH) (kc:=kc2) (kids:=a8) (mn:=mn2) (mx:=bY) (mode:=bX) (n:=bn) (neg:=bZ) 1 (by omega) ae hq);rw [List.length_drop] at DA yC;have pP:=C Kk;have mm:=C DA;have rY:=C yC;have r2:=C hB;have k8:=C kV;have jy:=(lG b1).2.2 _ b8;have bb:=(lG b2).2.2 _ ad;have cW:=fun W (h:I [] w W)=> ac4 a W (lj.ah h) (mS aJ b8);have gw:=fun W (h:I [] w W)=> L9 a b W (lj.ah h) (pq.ah h) jy bb;have C4:=C lj;have KU:(MRe.al aq).drop 1=MRe.al (aq.drop 1):=by rw [MRe.kP,MRe.kP,List.map_drop]
   have KV:(MRe.al a8).drop 1=MRe.al (a8.drop 1):=by rw [MRe.kP,MRe.kP,List.map_drop]
   have n6:(MRe.al aq).getD 0 .nil=a.ab:=by rw [t1];rfl
   have KP:(op1==2 && (op2==2 && (wq (MRe.al aq) && DL (MRe.al aq) (MRe.al a8))))=(kN a.ab && iQ a.ab b.ab):=by rw [t1,fu,h1,h2];rfl
   rw [KU,KV,n6,KP] at aC;obtain ⟨s,hs⟩:∃ s,s=kN a.ab:=⟨_,rfl⟩;obtain ⟨ae,hq⟩:∃ ae,ae=iQ a.ab b.ab:=⟨_,rfl⟩;rw [←hs,←hq] at aC;simp only [←hs] at cW;simp only [←hq] at gw;obtain ⟨sJ,vS⟩:∃ sJ,sJ=a:=⟨_,rfl⟩;rw [←vS] at aC pP C4;have IH:=C vS;have dW:=C aC;obtain ⟨op3,dk,dm,set3,di,dj,kids3,cA,cC,cB,cv,cx⟩:=a;obtain ⟨e7,e8,e9,fa,e0,e1,e2,e3,e5,e4,eQ,e6⟩:=b;have g:=wX.node;obtain ⟨bg,aV,a6,bl,bq,bE,bF,bH⟩:=id g;clear g;have g:=zV.node;obtain ⟨ep,aJ,cP,eM,eF,eN,eO,eP⟩:=id g;simp only [MRe.val] at cW gw;have afb:=C aj.fi;obtain ⟨dv,dI,ea,fo,gO,ha,hb,hd⟩:=aZ.o.au bg aV a6 bl bq bE bF bH;obtain ⟨c6,y1,dp,eb,ef,ej,ek,el⟩:=aZ.o.au ep aJ cP eM eF eN eO eP;have PT:=C (show (aA.cell? ⟨U,2,none⟩=some (M (some ⟨iZ,cR,none⟩) aq.length kc1)∧aA.cell? ⟨U + 1,2,none⟩=some (M (some ⟨sK,eH,none⟩) a8.length kc2))∧(aA.cell? ⟨iZ,cR,none⟩=some (H J op3)∧aA.cell? ⟨iZ,cR + 1,none⟩=some (M dk set3.length dm)∧aA.cell? ⟨iZ,cR + 2,none⟩=some (M di kids3.length dj)∧aA.cell? ⟨iZ,cR + 3,none⟩=some (H J cA)∧aA.cell? ⟨iZ,cR + 4,none⟩=some (H J cC)∧aA.cell? ⟨iZ,cR + 5,none⟩=some (H J cB)∧aA.cell? ⟨iZ,cR + 6,none⟩=some (H J cv)∧aA.cell? ⟨iZ,cR + 7,none⟩=some (F cx)) from ⟨⟨c2,d2⟩,⟨dv,dI,ea,fo,gO,ha,hb,hd⟩⟩);have nG:∀ d os,Calls Tryz.prog 56 #[.agg #[H J op3,M dk set3.length dm,M di kids3.length dj,H J cA,H J cC,H J cB,H J cv,F cx]] (grow (redrawn aA d) os) fun e jw=> e=.returned (F s)∧∃ p:Regrown,jw=grow (redrawn aA p.d) p.os:=fun d os=> Calls.regrown_of ((cW _ (aZ.o.trans (I.kY (below_regrown aA d os)))).mono fun e w' ⟨he,hk⟩=> ⟨he,hk.below (Nat.le_refl _)⟩);have oL:=C nG;have qx:∀ d os,Calls Tryz.prog 95 #[.agg #[H J op3,M dk set3.length dm,M di kids3.length dj,H J cA,H J cC,H J cB,H J cv,F cx],.agg #[H J e7,M e8 fa.length e9,M e0 e2.length e1,H J e3,H J e5,H J e4,H J eQ,F e6]] (grow (redrawn aA d) os) fun e jw=> e=.returned (F ae)∧∃ p:Regrown,jw=grow (redrawn aA p.d) p.os:=fun d os=> Calls.regrown_of ((gw _ (aZ.o.trans (I.kY (below_regrown aA d os)))).mono fun e w' ⟨he,hk⟩=> ⟨he,hk.below (Nat.le_refl _)⟩);have rp:=C qx;have i1:(0:Int) < (aq.length:Int):=by omega
   have akX:0 < aq.length:=by omega
   have akY:0 < a8.length:=by omega
   have i2:(0:Int) < (a8.length:Int):=by omega
   subst h1;subst h2;clear nG qx cW gw hs hq aC vS KP n6 KU KV jy bb hB kV Kk DA yC hk1 hk2 oX zZ km tX NX Fz t1 fu b8 xI wX lj ad qA zV pq g bg aV a6 bl bq bE bF bH ep aJ cP eM eF eN eO eP o5 o6 aj cV b1 b2 l1 l2;go_enter Tryz.func96,Tryz.ntmps96
   go_upto_region 1 with fail
   rw [←dw.o,←aB.o];go_upto_region 6 with fail
   have c0:=cell_regrown dv;have cT:=cell_regrown dI;have s2:=cell_regrown ea;have lR:=cell_regrown fo;have kM:=cell_regrown gO;have kh:=cell_regrown ha;have k7:=cell_regrown hb;have lJ:=cell_regrown hd;have t0:=cell_regrown c6;have t1:=cell_regrown y1;have fu:=cell_regrown dp;have t3:=cell_regrown eb;have t4:=cell_regrown ef;have t5:=cell_regrown ej;have jm:=cell_regrown ek;have jn:=cell_regrown el;have u2:=cell_regrown c2;have v2:=cell_regrown d2;clear ar c1 c2 an av ay ax az bK d1 d2 bL bO bT bU bV dv dI ea fo gO ha hb hd c6 y1 dp eb ef ej ek el
   cases ae with
   | false=>
    have aD:=C (show R=none by rw [dW.o];simp);refine wp_region_quiet_below (by kernel_rfl) (by kernel_rfl) ?_
    repeat (go_big_quiet_step (exact rp.o _ _))
    refine wpQuiet_nil ?_;intro _ i7;obtain ⟨dY,jK⟩:=i7;subst jK;have hk:=I.kY (below_regrown aA dY.d dY.os);have b6:=C (aZ.o.trans hk);clear hk c0 cT s2 lR kM kh k7 lJ t0 t1 fu t3 t4 t5 jm jn u2 v2
    generalize grow (redrawn aA dY.d) dY.os=fO at *
    go_wp2
    go_ret2
    exact lb.dL aD.o rfl b6.o
   | true=>
    cases s with
    | false=>
     have aD:=C (show R=none by rw [dW.o];simp);refine wp_region_quiet_below (by kernel_rfl) (by kernel_rfl) ?_
     repeat (go_big_quiet_step (first | exact rp.o _ _ | exact oL.o _ _))
     refine wpQuiet_nil ?_;intro _ i7;obtain ⟨dY,jK⟩:=i7;subst jK;have hk:=I.kY (below_regrown aA dY.d dY.os);have b6:=C (aZ.o.trans hk);clear hk c0 cT s2 lR kM kh k7 lJ t0 t1 fu t3 t4 t5 jm jn u2 v2
     generalize grow (redrawn aA dY.d) dY.os=fO at *
     go_wp2
     go_ret2
     exact lb.dL aD.o rfl b6.o
    | true=>
     have aD:=C (show R=some [gE 2 [sJ.ab,gE 3 [im 2 (MRe.al (aq.drop 1)),im 2 (MRe.al (a8.drop 1))]]] by rw [dW.o];simp);refine wp_region_quiet_below (by kernel_rfl) (by kernel_rfl) ?_
     repeat (go_big_quiet_step (first | exact rp.o _ _ | exact oL.o _ _))
     refine wpQuiet_nil ?_;intro _ i7;obtain ⟨dY,jK⟩:=i7;subst jK;have hk:=I.kY (below_regrown aA dY.d dY.os);have lW:=C hk;have b6:=C (aZ.o.trans hk);clear hk c0 cT s2 lR kM kh k7 lJ t0 t1 fu t3 t4 t5 jm jn u2 v2
     generalize grow (redrawn aA dY.d) dY.os=fO at *
     obtain ⟨⟨c2,d2⟩,⟨dv,dI,ea,fo,gO,ha,hb,hd⟩⟩:=PT.o;have u2:=lW.o.c c2;have v2:=lW.o.c d2;obtain ⟨c6,y1,dp,eb,ef,ej,ek,el⟩:=lW.o.au dv dI ea fo gO ha hb hd;clear c2 d2 dv dI ea fo gO ha hb hd;go_upto_region 7 with fail
     refine rg (S:=fun w'=> (w'.cell? ⟨U,2,none⟩=some (M (some ⟨iZ,cR,none⟩) aq.length kc1)∧w'.cell? ⟨U + 1,2,none⟩=some (M (some ⟨sK,eH,none⟩) a8.length kc2))∧(w'.cell? ⟨iZ,cR,none⟩=some (H J op3)∧w'.cell? ⟨iZ,cR + 1,none⟩=some (M dk set3.length dm)∧w'.cell? ⟨iZ,cR + 2,none⟩=some (M di kids3.length dj)∧w'.cell? ⟨iZ,cR + 3,none⟩=some (H J cA)∧w'.cell? ⟨iZ,cR + 4,none⟩=some (H J cC)∧w'.cell? ⟨iZ,cR + 5,none⟩=some (H J cB)∧w'.cell? ⟨iZ,cR + 6,none⟩=some (H J cv)∧w'.cell? ⟨iZ,cR + 7,none⟩=some (F cx))) (fun _ k=> ⟨⟨k.c u2,k.c v2⟩,(k.au c6 y1 dp eb ef ej ek el)⟩) fun bM aF=> ?_;refine ag 0 ?_;refine ag 1 ?_;refine ag 2 ?_;refine ag 3 ?_;refine ag 4 ?_;refine ag 5 ?_;refine ag 6 ?_;refine ag 8 ?_;refine ag 9 ?_;refine ag 10 ?_;refine bh 7 fun ai af=> ?_;go_simp
     go_at_call 55
     refine Calls.mono (r2.o _ (b6.o.drew)) ?_;rintro e w3 ⟨p1,rfl,yO,xT,aP,gg⟩;have aR:=C (((I.refl [] fO).drew).trans aP);have T1:=C yO;have uK:=C xT;have r4:=C gg;obtain ⟨L4,FP⟩:∃ L4,L4=p1:=⟨_,rfl⟩;rw [←FP] at T1 uK r4;have A7:=C FP;clear aP yO xT gg FP;obtain ⟨cK,cL,cM,cN,cD,cE,cF,cG,cI,cH,cu,cJ⟩:=p1;simp only [MRe.val];refine af.out _ _ (bM.o _ aR.o) fun aF=> ?_;clear af ai;try go_frame
     refine bh 11 fun ai af=> ?_;go_simp
     go_at_call 55
     refine Calls.mono (k8.o _ (b6.o.trans aR.o)) ?_;rintro e w4 ⟨p2,rfl,yP,tw,bc,iR⟩;have xn:=C bc;have cl:=C (aR.o.trans bc);have T2:=C yP;have uL:=C tw;have q4:=C iR;obtain ⟨L5,FQ⟩:∃ L5,L5=p2:=⟨_,rfl⟩;rw [←FQ] at T2 uL q4;have B5:=C FQ;clear bc yP tw iR FQ;obtain ⟨fJ,fK,fL,fM,fC,fD,fE,fF,fH,fG,fm,fI⟩:=p2;simp only [MRe.val];refine af.out _ _ (bM.o _ cl.o) fun aF=> ?_;clear af ai;try go_frame
     refine bh 12 fun ai af=> ?_;go_simp;have IM:=C (cl.o.trans (I.a1 w4 (.cells #[H J cK,M cL cN.length cM,M cD cF.length cE,H J cG,H J cI,H J cH,H J cu,F cJ,H J fJ,M fK fM.length fL,M fC fE.length fD,H J fF,H J fH,H J fG,H J fm,F fI] 26)));refine af.out _ _ (bM.o _ IM.o) fun aF=> ?_;clear af ai;try go_frame
     refine ag 13 ?_;refine bh 14 fun ai af=> ?_;go_simp;have IN:=C (IM.o.trans (I.a1 _ (.cells #[H J op3,M dk set3.length dm,M di kids3.length dj,H J cA,H J cC,H J cB,H J cv,F cx,H J 3,M none 0 0,M (some ⟨w4.heap.size,0,none⟩) 2 2,H J 0,H J 0,H J 0,H J 0,F false] 26)));refine af.out _ _ (bM.o _ IN.o) fun aF=> ?_;clear af ai;try go_frame
     refine ag 15 ?_;refine bh 16 fun ai af=> ?_;go_simp;have IP:=C (IN.o.trans (I.a1 _ (.cells #[H J 2,M none 0 0,M (some ⟨w4.heap.size + 1,0,none⟩) 2 2,H J 0,H J 0,H J 0,H J 0,F false] 26)));refine af.out _ _ (bM.o _ IP.o) fun aF=> ?_;clear af ai;try go_frame
     refine ag 17 ?_;refine ag 18 ?_;refine dR ?_;have kH:w.heap.size≤w4.heap.size:=(b6.o.trans cl.o).size;obtain ⟨wU,Kn⟩:=aou (T1:=26) (T2:=26) (T3:=26) (p1:=3) (p2:=2) (lo:=w.heap.size) (C4.o.ah (b6.o.trans cl.o)) (uK.o.ah xn.o) uL.o #[H J cK,M cL cN.length cM,M cD cF.length cE,H J cG,H J cI,H J cH,H J cu,F cJ,H J fJ,M fK fM.length fL,M fC fE.length fD,H J fF,H J fH,H J fG,H J fm,F fI] #[H J op3,M dk set3.length dm,M di kids3.length dj,H J cA,H J cC,H J cB,H J cv,F cx,H J 3,M none 0 0,M (some ⟨w4.heap.size,0,none⟩) 2 2,H J 0,H J 0,H J 0,H J 0,F false] #[H J 2,M none 0 0,M (some ⟨w4.heap.size + 1,0,none⟩) 2 2,H J 0,H J 0,H J 0,H J 0,F false]
      (by rw [A7.o,B5.o];rfl) (by rw [IH.o];rfl) rfl kH (du.rR pP.o) (du.rR fun x hx=> mm.o x (r4.o x hx)) (du.rR fun x hx=> rY.o x (q4.o x hx))
     have iX:=C wU;have yk:=C Kn;clear wU Kn kH u2 v2 c6 y1 dp eb ef ej ek el aF;go_wp2
     go_ret2
     exact lb.iI (some ⟨w4.heap.size + 2,0,none⟩) _ aD.o (by simp only [MRe.ab,MRe.al,T1.o,T2.o];rfl) rfl iX.o (b6.o.trans IP.o) yk.o
  ·have ad:(op2==2)=false:=by simpa using h2
   have aD:=C (show R=none by rw [aC,ad];simp);clear aC o5 o6 aj cV aJ cP b1 b2;subst h1;go_enter Tryz.func96,Tryz.ntmps96
   go_upto_region 1 with fail
   rw [←dw.o,←aB.o];go_upto_region 6 with fail
   go_quiet (fail)
   go_wp2
   go_ret2
   exact lb.dL aD.o rfl (aZ.o.drewN _)
 ·have ad:(op1==2)=false:=by simpa using h1
  have aD:=C (show R=none by rw [aC,ad];simp);clear aC o5 o6 aj cV aJ cP b1 b2;go_enter Tryz.func96,Tryz.ntmps96
  go_upto_region 1 with fail
  rw [←dw.o,←aB.o];go_upto_region 6 with fail
  go_quiet (fail)
  go_wp2
  go_ret2
  exact lb.dL aD.o rfl (aZ.o.drewN _)
def Mj (a b:Tree):Tree:=gE 2 [gE 3 [im 2 (a.kids.take (a.kids.length - 1)),im 2 (b.kids.take (b.kids.length - 1))],s6 a]
theorem adN {op sa sc set b off kc kids mn mx mode n neg} (k:Nat) (hl:0 < kids.length):∀ ae∈df (kids.take k).length (some (⟨b,off,none⟩:Addr)) ++ MRe.dN (kids.take k),ae∈(MRe.node op sa sc set (some ⟨b,off,none⟩) kc kids mn mx mode n neg).aw:=fun ae hq=> by
 simp only [MRe.aw,List.mem_append]
 rcases List.mem_append.1 hq with h | h
 ·refine .inr (.inl ?_);unfold df at h ⊢;rw [if_neg (by omega)]
  split at h
  ·simp at h
  ·simpa using h
 ·obtain ⟨y,hy,o0⟩:=MRe.tm h;exact .inr (.inr (MRe.mQ (List.mem_of_mem_take hy) o0))
theorem aov {W:World} {src:List Nat} {lo T1 T2 T3:Nat} {p1 p2:Int} {a0 cT s2:MRe} (b8:a0.aK W) (h1:cT.aK W) (h2:s2.aK W) (c1 c2 an:Array Value) (aV:c1.toList=fX [cT,s2])
  (a6:c2.toList=fX [.node p1 none 0 [] (some ⟨W.heap.size,0,none⟩) 2 [cT,s2] 0 0 0 0 false,a0]) (bl:an.toList=(MRe.node p2 none 0 [] (some ⟨W.heap.size + 1,0,none⟩) 2 [.node p1 none 0 [] (some ⟨W.heap.size,0,none⟩) 2 [cT,s2] 0 0 0 0 false,a0] 0 0 0 0 false).row)
  (kH:lo≤W.heap.size) (ep:du lo src a0.aw) (aJ:du lo src cT.aw) (cP:du lo src s2.aw):
  gT (((W.alloc (.cells c1 T1)).alloc (.cells c2 T2)).alloc (.cells an T3)) (some ⟨W.heap.size + 2,0,none⟩) 1 [.node p2 none 0 [] (some ⟨W.heap.size + 1,0,none⟩) 2 [.node p1 none 0 [] (some ⟨W.heap.size,0,none⟩) 2 [cT,s2] 0 0 0 0 false,a0] 0 0 0 0 false]∧
  du lo src (MRe.node p2 none 0 [] (some ⟨W.heap.size + 1,0,none⟩) 2 [.node p1 none 0 [] (some ⟨W.heap.size,0,none⟩) 2 [cT,s2] 0 0 0 0 false,a0] 0 0 0 0 false).aw:=by
 have hy:=Bx (op:=p1) h1 h2 (I.a1 W (.cells c1 T1)) (heap_alloc_new W _) aV;have hx:=Bx (op:=p2) hy (b8.ah (I.a1 W (.cells c1 T1))) (I.a1 _ (.cells c2 T2)) (heap_alloc2_new W _ _) a6;refine ⟨?_,?_⟩
 ·have h:=LW (T:=T3) hx an bl;have hs:((W.alloc (.cells c1 T1)).alloc (.cells c2 T2)).heap.size=W.heap.size + 2:=by simp
  rw [hs] at h;exact h
 ·intro x hx;simp only [MRe.aw,MRe.dN,List.append_nil,List.mem_append] at hx
  rcases hx with h | h | h | h
  ·simp [df] at h
  ·simp [df] at h;subst h;exact .inr (by omega)
  ·rcases h with h | h | h | h
   ·simp [df] at h
   ·simp [df] at h;subst h;exact .inr kH
   ·exact aJ x h
   ·exact cP x h
  ·exact ep x h
theorem ani (m1 m2:MRe) (w:World) (aj:m1.aK w) (cV:m2.aK w) (aJ:m1.ab.dE) (cP:m2.ab.dE) (b1:m1.ab.bm≤100000) (b2:m2.ab.bm≤100000):
  Calls Tryz.prog 96 #[H J 5,m1.val,m2.val] w (lb w (m1.aw ++ m2.aw) (if zi m1.ab m2.ab=true then some [Mj m1.ab m2.ab] else none)):=by
 obtain ⟨R,aC⟩:∃ R,R=if zi m1.ab m2.ab=true then some [Mj m1.ab m2.ab] else none:=⟨_,rfl⟩;rw [←aC];obtain ⟨op1,aM,aN,set1,aS,kc1,aq,mn1,aI,mode1,n1,aL⟩:=m1;obtain ⟨op2,cg,cf,bj,ct,kc2,a8,mn2,bY,bX,bn,bZ⟩:=m2;replace aC:R=if (op1==2 && (op2==2 && iQ (s6 (MRe.ab (.node op1 aM aN set1 aS kc1 aq mn1 aI mode1 n1 aL))) (s6 (MRe.ab (.node op2 cg cf bj ct kc2 a8 mn2 bY bX bn bZ)))))=true then some [gE 2 [gE 3 [im 2 ((MRe.al aq).take ((MRe.al aq).length - 1)),im 2 ((MRe.al a8).take ((MRe.al a8).length - 1))],s6 (MRe.ab (.node op1 aM aN set1 aS kc1 aq mn1 aI mode1 n1 aL))]] else none:=aC;have o5:=kB aJ;have o6:=kB cP;simp only [MRe.val];obtain ⟨U,aA,ar,c1,c2,an,av,ay,ax,az,bK,d1,d2,bL,bO,bT,bU,bV,dw,aB,aZ⟩:=nc w op1 aM aN set1 aS kc1 aq mn1 aI mode1 n1 aL op2 cg cf bj ct kc2 a8 mn2 bY bX bn bZ
 by_cases h1:op1=2
 ·by_cases h2:op2=2
  ·obtain ⟨iZ,cR,l1,a,FE,oB,b8,wX,lj,hag,i1,i2,i3,abc,T4,_⟩:=Ik aj (o5.vc (.inl h1));obtain ⟨sK,eH,l2,b,FF,m6,ad,zV,pq,zW,LL,LM,abm,abn,Ua,_⟩:=Ik cV (o6.vc (.inl h2));rw [hag,zW] at aC;subst FE;subst FF;have km:=aj.ch.cap;have tX:=cV.ch.cap;have NX:=aj.ch.le;have Fz:=cV.ch.le;unfold maxLen at km tX;have H6:(aq.take l1).length=l1:=by rw [List.length_take];omega
   have H7:(a8.take l2).length=l2:=by rw [List.length_take];omega
   have hk1:gT w (some ⟨iZ,cR,none⟩) kc1 (aq.take l1):=⟨aj.ch.take l1,fun x hx=> aj.dy (List.mem_of_mem_take hx)⟩;have hk2:gT w (some ⟨sK,eH,none⟩) kc2 (a8.take l2):=⟨cV.ch.take l2,fun x hx=> cV.dy (List.mem_of_mem_take hx)⟩;have hB:=fun (W:World) (h:I [] w W)=> L3 (some ⟨iZ,cR,none⟩) kc1 (aq.take l1) W (hk1.ah h);have kV:=fun (W:World) (h:I [] w W)=> L3 (some ⟨sK,eH,none⟩) kc2 (a8.take l2) W (hk2.ah h);rw [H6] at hB;rw [H7] at kV;have gQ:∀ W:World,(Instr.sliceAt 24 (M (some ⟨iZ,cR,none⟩) aq.length kc1) none (some (H J l1)) none).run Tryz.prog W=.ok (M (some ⟨iZ,cR,none⟩) l1 kc1) W:=by
    intro W;have q1:(l1:Int)≤kc1:=by omega
    simp [go_sem,q1]
   have gn:∀ W:World,(Instr.sliceAt 24 (M (some ⟨sK,eH,none⟩) a8.length kc2) none (some (H J l2)) none).run Tryz.prog W=.ok (M (some ⟨sK,eH,none⟩) l2 kc2) W:=by
    intro W;have q1:(l2:Int)≤kc2:=by omega
    simp [go_sem,q1]
   have Kk:∀ x∈a.aw,x∈(MRe.node op1 aM aN set1 (some ⟨iZ,cR,none⟩) kc1 aq mn1 aI mode1 n1 aL).aw ++ (MRe.node op2 cg cf bj (some ⟨sK,eH,none⟩) kc2 a8 mn2 bY bX bn bZ).aw:=fun x hx=> List.mem_append_left _ (mF b8 x hx);have DA:=fun ae hq=> List.mem_append_left (MRe.node op2 cg cf bj (some ⟨sK,eH,none⟩) kc2 a8 mn2 bY bX bn bZ).aw (adN (op:=op1) (sa:=aM) (sc:=aN) (set:=set1) (b:=iZ) (off:=cR) (kc:=kc1) (kids:=aq) (mn:=mn1) (mx:=aI) (mode:=mode1) (n:=n1) (neg:=aL) l1 (by omega) ae hq);have yC:=fun ae hq=> List.mem_append_right (MRe.node op1 aM aN set1 (some ⟨iZ,cR,none⟩) kc1 aq mn1 aI mode1 n1 aL).aw (adN (op:=op2) (sa:=cg) (sc:=cf) (set:=bj) (b:=sK) (off:=eH) (kc:=kc2) (kids:=a8) (mn:=mn2) (mx:=bY) (mode:=bX) (n:=bn) (neg:=bZ) l2 (by omega) ae hq);rw [H6] at DA;rw [H7] at yC;have pP:=C Kk;have mm:=C DA;have rY:=C yC;have r2:=C hB;have k8:=C kV;have jy:=(lG b1).2.2 _ b8;have bb:=(lG b2).2.2 _ ad;have gw:=fun W (h:I [] w W)=> L9 a b W (lj.ah h) (pq.ah h) jy bb;have C4:=C lj;have KU:(MRe.al aq).take ((MRe.al aq).length - 1)=MRe.al (aq.take l1):=by rw [MRe.ee,oB,Nat.add_sub_cancel,Mk]
   have KV:(MRe.al a8).take ((MRe.al a8).length - 1)=MRe.al (a8.take l2):=by rw [MRe.ee,m6,Nat.add_sub_cancel,Mk]
   have KP:(op1==2 && (op2==2 && iQ a.ab b.ab))=iQ a.ab b.ab:=by rw [h1,h2];rfl
   rw [KU,KV,KP] at aC;obtain ⟨ae,hq⟩:∃ ae,ae=iQ a.ab b.ab:=⟨_,rfl⟩;rw [←hq] at aC;simp only [←hq] at gw;obtain ⟨sJ,vS⟩:∃ sJ,sJ=a:=⟨_,rfl⟩;rw [←vS] at aC pP C4;have IH:=C vS;have dW:=C aC;obtain ⟨op3,dk,dm,set3,di,dj,kids3,cA,cC,cB,cv,cx⟩:=a;obtain ⟨e7,e8,e9,fa,e0,e1,e2,e3,e5,e4,eQ,e6⟩:=b;have g:=wX.node;obtain ⟨bg,aV,a6,bl,bq,bE,bF,bH⟩:=id g;clear g;have g:=zV.node;obtain ⟨ep,aJ,cP,eM,eF,eN,eO,eP⟩:=id g;simp only [MRe.val] at gw;have afb:=C aj.fi;obtain ⟨dv,dI,ea,fo,gO,ha,hb,hd⟩:=aZ.o.au bg aV a6 bl bq bE bF bH;obtain ⟨c6,y1,dp,eb,ef,ej,ek,el⟩:=aZ.o.au ep aJ cP eM eF eN eO eP;have PT:=C (show (aA.cell? ⟨U,2,none⟩=some (M (some ⟨iZ,cR,none⟩) aq.length kc1)∧aA.cell? ⟨U + 1,2,none⟩=some (M (some ⟨sK,eH,none⟩) a8.length kc2))∧(aA.cell? ⟨iZ,cR + l1 * 8,none⟩=some (H J op3)∧aA.cell? ⟨iZ,cR + l1 * 8 + 1,none⟩=some (M dk set3.length dm)∧aA.cell? ⟨iZ,cR + l1 * 8 + 2,none⟩=some (M di kids3.length dj)∧aA.cell? ⟨iZ,cR + l1 * 8 + 3,none⟩=some (H J cA)∧aA.cell? ⟨iZ,cR + l1 * 8 + 4,none⟩=some (H J cC)∧aA.cell? ⟨iZ,cR + l1 * 8 + 5,none⟩=some (H J cB)∧aA.cell? ⟨iZ,cR + l1 * 8 + 6,none⟩=some (H J cv)∧aA.cell? ⟨iZ,cR + l1 * 8 + 7,none⟩=some (F cx)) from ⟨⟨c2,d2⟩,⟨dv,dI,ea,fo,gO,ha,hb,hd⟩⟩);have qx:∀ d os,Calls Tryz.prog 95 #[.agg #[H J op3,M dk set3.length dm,M di kids3.length dj,H J cA,H J cC,H J cB,H J cv,F cx],.agg #[H J e7,M e8 fa.length e9,M e0 e2.length e1,H J e3,H J e5,H J e4,H J eQ,F e6]] (grow (redrawn aA d) os) fun e jw=> e=.returned (F ae)∧∃ p:Regrown,jw=grow (redrawn aA p.d) p.os:=fun d os=> Calls.regrown_of ((gw _ (aZ.o.trans (I.kY (below_regrown aA d os)))).mono fun e w' ⟨he,hk⟩=> ⟨he,hk.below (Nat.le_refl _)⟩);have rp:=C qx;subst h1;subst h2;clear qx gw hq aC vS KP KU KV jy bb hB kV Kk DA yC hk1 hk2 km tX NX Fz H6 H7 oB m6 T4 Ua b8 wX lj hag ad zV pq zW g bg aV a6 bl bq bE bF bH ep aJ cP eM eF eN eO eP o5 o6 aj cV b1 b2;go_enter Tryz.func96,Tryz.ntmps96
   go_upto_region 1 with fail
   rw [←dw.o,←aB.o];go_upto_region 9 with fail
   have c0:=cell_regrown dv;have cT:=cell_regrown dI;have s2:=cell_regrown ea;have lR:=cell_regrown fo;have kM:=cell_regrown gO;have kh:=cell_regrown ha;have k7:=cell_regrown hb;have lJ:=cell_regrown hd;have t0:=cell_regrown c6;have t1:=cell_regrown y1;have fu:=cell_regrown dp;have t3:=cell_regrown eb;have t4:=cell_regrown ef;have t5:=cell_regrown ej;have jm:=cell_regrown ek;have jn:=cell_regrown el;have u2:=cell_regrown c2;have v2:=cell_regrown d2;clear ar c1 c2 an av ay ax az bK d1 d2 bL bO bT bU bV dv dI ea fo gO ha hb hd c6 y1 dp eb ef ej ek el
   cases ae with
   | false=>
    have aD:=C (show R=none by rw [dW.o];simp);refine wp_region_quiet_below (by kernel_rfl) (by kernel_rfl) ?_
    repeat (go_big_quiet_step (exact rp.o _ _))
    refine wpQuiet_nil ?_;intro _ i7;obtain ⟨dY,jK⟩:=i7;subst jK;have hk:=I.kY (below_regrown aA dY.d dY.os);have b6:=C (aZ.o.trans hk);clear hk c0 cT s2 lR kM kh k7 lJ t0 t1 fu t3 t4 t5 jm jn u2 v2
    generalize grow (redrawn aA dY.d) dY.os=fO at *
    go_wp2
    go_ret2
    exact lb.dL aD.o rfl b6.o
   | true=>
    have aD:=C (show R=some [gE 2 [gE 3 [im 2 (MRe.al (aq.take l1)),im 2 (MRe.al (a8.take l2))],sJ.ab]] by rw [dW.o];simp);refine wp_region_quiet_below (by kernel_rfl) (by kernel_rfl) ?_
    repeat (go_big_quiet_step (exact rp.o _ _))
    refine wpQuiet_nil ?_;intro _ i7;obtain ⟨dY,jK⟩:=i7;subst jK;have hk:=I.kY (below_regrown aA dY.d dY.os);have lW:=C hk;have b6:=C (aZ.o.trans hk);clear hk c0 cT s2 lR kM kh k7 lJ t0 t1 fu t3 t4 t5 jm jn u2 v2
    generalize grow (redrawn aA dY.d) dY.os=fO at *
    obtain ⟨⟨c2,d2⟩,⟨dv,dI,ea,fo,gO,ha,hb,hd⟩⟩:=PT.o;have u2:=lW.o.c c2;have v2:=lW.o.c d2;obtain ⟨c6,y1,dp,eb,ef,ej,ek,el⟩:=lW.o.au dv dI ea fo gO ha hb hd;clear c2 d2 dv dI ea fo gO ha hb hd;go_upto_region 10 with fail
    refine rg (S:=fun w'=> (w'.cell? ⟨U,2,none⟩=some (M (some ⟨iZ,cR,none⟩) aq.length kc1)∧w'.cell? ⟨U + 1,2,none⟩=some (M (some ⟨sK,eH,none⟩) a8.length kc2))∧(w'.cell? ⟨iZ,cR + l1 * 8,none⟩=some (H J op3)∧w'.cell? ⟨iZ,cR + l1 * 8 + 1,none⟩=some (M dk set3.length dm)∧w'.cell? ⟨iZ,cR + l1 * 8 + 2,none⟩=some (M di kids3.length dj)∧w'.cell? ⟨iZ,cR + l1 * 8 + 3,none⟩=some (H J cA)∧w'.cell? ⟨iZ,cR + l1 * 8 + 4,none⟩=some (H J cC)∧w'.cell? ⟨iZ,cR + l1 * 8 + 5,none⟩=some (H J cB)∧w'.cell? ⟨iZ,cR + l1 * 8 + 6,none⟩=some (H J cv)∧w'.cell? ⟨iZ,cR + l1 * 8 + 7,none⟩=some (F cx))) (fun _ k=> ⟨⟨k.c u2,k.c v2⟩,(k.au c6 y1 dp eb ef ej ek el)⟩) fun bM aF=> ?_;refine ag 0 ?_;refine ag 1 ?_;refine ag 2 ?_;refine ag 3 ?_;refine ag 4 ?_;refine ag 6 ?_;refine ag 7 ?_;refine ag 8 ?_;refine ag 9 ?_;refine ag 10 ?_;refine ag 14 ?_;refine ag 15 ?_;refine ag 16 ?_;refine ag 17 ?_;refine ag 18 ?_;refine ag 19 ?_;refine bh 5 fun ai af=> ?_;go_simp
    go_at_call 55
    refine Calls.mono (r2.o _ (b6.o.drew)) ?_;rintro e w3 ⟨p1,rfl,yO,xT,aP,gg⟩;have aR:=C (((I.refl [] fO).drew).trans aP);have T1:=C yO;have uK:=C xT;have r4:=C gg;obtain ⟨L4,FP⟩:∃ L4,L4=p1:=⟨_,rfl⟩;rw [←FP] at T1 uK r4;have A7:=C FP;clear aP yO xT gg FP;obtain ⟨cK,cL,cM,cN,cD,cE,cF,cG,cI,cH,cu,cJ⟩:=p1;simp only [MRe.val];refine af.out _ _ (bM.o _ aR.o) fun aF=> ?_;clear af ai;try go_frame
    refine bh 11 fun ai af=> ?_;go_simp
    go_at_call 55
    refine Calls.mono (k8.o _ (b6.o.trans aR.o)) ?_;rintro e w4 ⟨p2,rfl,yP,tw,bc,iR⟩;have xn:=C bc;have cl:=C (aR.o.trans bc);have T2:=C yP;have uL:=C tw;have q4:=C iR;obtain ⟨L5,FQ⟩:∃ L5,L5=p2:=⟨_,rfl⟩;rw [←FQ] at T2 uL q4;have B5:=C FQ;clear bc yP tw iR FQ;obtain ⟨fJ,fK,fL,fM,fC,fD,fE,fF,fH,fG,fm,fI⟩:=p2;simp only [MRe.val];refine af.out _ _ (bM.o _ cl.o) fun aF=> ?_;clear af ai;try go_frame
    refine bh 12 fun ai af=> ?_;go_simp;have IM:=C (cl.o.trans (I.a1 w4 (.cells #[H J cK,M cL cN.length cM,M cD cF.length cE,H J cG,H J cI,H J cH,H J cu,F cJ,H J fJ,M fK fM.length fL,M fC fE.length fD,H J fF,H J fH,H J fG,H J fm,F fI] 26)));refine af.out _ _ (bM.o _ IM.o) fun aF=> ?_;clear af ai;try go_frame
    refine ag 13 ?_;refine bh 20 fun ai af=> ?_;go_simp;have IN:=C (IM.o.trans (I.a1 _ (.cells #[H J 3,M none 0 0,M (some ⟨w4.heap.size,0,none⟩) 2 2,H J 0,H J 0,H J 0,H J 0,F false,H J op3,M dk set3.length dm,M di kids3.length dj,H J cA,H J cC,H J cB,H J cv,F cx] 26)));refine af.out _ _ (bM.o _ IN.o) fun aF=> ?_;clear af ai;try go_frame
    refine ag 21 ?_;refine bh 22 fun ai af=> ?_;go_simp;have IP:=C (IN.o.trans (I.a1 _ (.cells #[H J 2,M none 0 0,M (some ⟨w4.heap.size + 1,0,none⟩) 2 2,H J 0,H J 0,H J 0,H J 0,F false] 26)));refine af.out _ _ (bM.o _ IP.o) fun aF=> ?_;clear af ai;try go_frame
    refine ag 23 ?_;refine ag 24 ?_;refine dR ?_;have kH:w.heap.size≤w4.heap.size:=(b6.o.trans cl.o).size;obtain ⟨wU,Kn⟩:=aov (T1:=26) (T2:=26) (T3:=26) (p1:=3) (p2:=2) (lo:=w.heap.size) (C4.o.ah (b6.o.trans cl.o)) (uK.o.ah xn.o) uL.o #[H J cK,M cL cN.length cM,M cD cF.length cE,H J cG,H J cI,H J cH,H J cu,F cJ,H J fJ,M fK fM.length fL,M fC fE.length fD,H J fF,H J fH,H J fG,H J fm,F fI] #[H J 3,M none 0 0,M (some ⟨w4.heap.size,0,none⟩) 2 2,H J 0,H J 0,H J 0,H J 0,F false,H J op3,M dk set3.length dm,M di kids3.length dj,H J cA,H J cC,H J cB,H J cv,F cx] #[H J 2,M none 0 0,M (some ⟨w4.heap.size + 1,0,none⟩) 2 2,H J 0,H J 0,H J 0,H J 0,F false]
     (by rw [A7.o,B5.o];rfl) (by rw [IH.o];rfl) rfl kH (du.rR pP.o) (du.rR fun x hx=> mm.o x (r4.o x hx)) (du.rR fun x hx=> rY.o x (q4.o x hx))
    have iX:=C wU;have yk:=C Kn;clear wU Kn kH u2 v2 c6 y1 dp eb ef ej ek el aF;go_wp2
    go_ret2
    exact lb.iI (some ⟨w4.heap.size + 2,0,none⟩) _ aD.o (by simp only [MRe.ab,MRe.al,T1.o,T2.o];rfl) rfl iX.o (b6.o.trans IP.o) yk.o
  ·have ad:(op2==2)=false:=by simpa using h2
   have aD:=C (show R=none by rw [aC,ad];simp);clear aC o5 o6 aj cV aJ cP b1 b2;subst h1;go_enter Tryz.func96,Tryz.ntmps96
   go_upto_region 1 with fail
   rw [←dw.o,←aB.o];go_upto_region 9 with fail
   go_quiet (fail)
   go_wp2
   go_ret2
   exact lb.dL aD.o rfl (aZ.o.drewN _)
 ·have ad:(op1==2)=false:=by simpa using h1
  have aD:=C (show R=none by rw [aC,ad];simp);clear aC o5 o6 aj cV aJ cP b1 b2;go_enter Tryz.func96,Tryz.ntmps96
  go_upto_region 1 with fail
  rw [←dw.o,←aB.o];go_upto_region 9 with fail
  go_quiet (fail)
  go_wp2
  go_ret2
  exact lb.dL aD.o rfl (aZ.o.drewN _)
def oe (o:Int) (p:Tree→Tree→Bool) (Ek:Tree→Tree→Tree) (t:Tree):Option Tree:=
 if t.op=o then (mz p t.kids).map fun i=> hF t.op t.kids i (i + 2) [Ek (t.kids.getD i .nil) (t.kids.getD (i + 1) .nil)] else none
theorem Bb (w:World) (m:MRe) (T:Nat):∃ aE:World,aE=((w.alloc (.cells m.row.toArray T)).alloc (.cells #[H J 0,M none 0 0,M none 0 0,H J 0,H J 0,H J 0,H J 0,F false] T)).alloc (.cells #[H J 0,M none 0 0,M none 0 0,H J 0,H J 0,H J 0,H J 0,F false] T)∧fb aE w.heap.size 0 m∧aE.heap[w.heap.size + 1]? =some (.cells #[H J 0,M none 0 0,M none 0 0,H J 0,H J 0,H J 0,H J 0,F false] T (0,0))∧aE.heap[w.heap.size + 1 + 1]? =some (.cells #[H J 0,M none 0 0,M none 0 0,H J 0,H J 0,H J 0,H J 0,F false] T (0,0))∧w.heap.size + 2≤aE.heap.size∧I [] w aE:=by
 refine ⟨_,rfl,(Hq w m T).1.ah (I.a1 _ _),(I.a1 _ _).heap (Hq w m T).2.1 (by simp),?_,by simp,I.a3 _ _ _ _⟩;have h:=heap_alloc_new ((w.alloc (.cells m.row.toArray T)).alloc (.cells #[H J 0,M none 0 0,M none 0 0,H J 0,H J 0,H J 0,H J 0,F false] T)) (.cells #[H J 0,M none 0 0,M none 0 0,H J 0,H J 0,H J 0,H J 0,F false] T)
 simpa using h
theorem Iz {m:MRe} {w:World} (aj:m.aK w) (r o:Int) (R:Option Tree) (aO:(o=3∧(r=4∨r=5∨r=6))∨(o=2∧(r=9∨r=10∨r=11))) (lB:∀ W:World,I [] w W→m.ab.op=o→Calls Tryz.prog 50 #[H J r,m.val] W (dc W m.aw R)) (hoN:m.ab.op≠o→R=none):
  Calls Tryz.prog 12 #[H J r,m.val] w (dc w m.aw R):=by
 have eU:=C aj.fi;have mL:m.ab.op=(match m with | .node op _ _ _ _ _ _ _ _ _ _ _=> op):=by cases m;rfl
 obtain ⟨op,sa,sc,set,ka,kc,kids,mn,mx,mode,n,neg⟩:=m;replace mL:(MRe.ab (.node op sa sc set ka kc kids mn mx mode n neg)).op=op:=rfl;rw [mL] at hoN;obtain ⟨U,cd⟩:∃ U,U=w.heap.size:=⟨_,rfl⟩;obtain ⟨aE,cz,iy,aW,j8,cZ,cq⟩:=Bb w (.node op sa sc set ka kc kids mn mx mode n neg) 26;simp only [MRe.row] at cz;rw [←cd] at iy aW j8 cZ;have aB:=C cd;have c7:=C cz;have bI:=C iy;have ba:=C aW;have lA:=C j8;have aH:=C cq;have hC:=C cZ;simp only [MRe.val] at lB ⊢
 by_cases ds:op=o
 ·have ff:=C (fun (W:World) (h:I [] w W)=> lB W h ds);obtain ⟨ou,kF⟩:∃ ou,ou=R:=⟨_,rfl⟩;rw [←kF];have gN:=C kF;clear kF lB hoN cd cz iy aW j8 cZ cq aj mL;subst ds
  rcases aO with ⟨rfl,rfl | rfl | rfl⟩ | ⟨rfl,rfl | rfl | rfl⟩
  all_goals
   obtain ⟨ar,c1,c2,an,av,ay,ax,az⟩:=bI.o.ez;go_enter Tryz.func12,Tryz.ntmps12
   go_upto_region 2 with fail
   rw [←c7.o,←aB.o];go_wp2_with fail
   refine Calls.mono (ff.o _ aH.o) ?_;intro e w2 jX
   cases R with
   | none=>
    obtain ⟨rfl,hk2⟩:=jX;have aU:=C hk2;have aD:=C (show ou=none from gN.o);clear hk2 ar c1 c2 an av ay ax az;obtain ⟨z0,z1,z2,z3,z4,z5,b9,cc,cj,cw,bQ⟩:=gR aB.o aH.o aU.o ba.o;go_wp2;refine rt cw.o ?_;exact dc.dL aD.o rfl bQ.o
   | some t=>
    obtain ⟨ae,rfl,a7,aT,cU,hqf⟩:=jX;have gu:=C cU;have dK:=C a7;have dA:=C aT;have et:=C (vp (lo:=U + 2) (add:=[]) (by rw [List.append_nil];exact hqf) (fun _ h=> by simp at h) hC.o);obtain ⟨q0,bN⟩:∃ q0,q0=ae:=⟨_,rfl⟩;rw [←bN] at dK dA et;have dt:=C bN;clear a7 aT cU hqf bN ar c1 c2 an av ay ax az;obtain ⟨bA,bB,bC,bD,bs,bt,bu,bo,bx,bw,bp,bz⟩:=ae;simp only [MRe.val];obtain ⟨z0,z1,z2,z3,z4,z5,b9,cc,cj⟩:=ew (gu.o.h ba.o);go_wp2;have hfr:=et.o;rw [dt.o] at hfr;obtain ⟨aY,cm,fy,gB⟩:=nd aB.o aH.o gu.o ba.o (by rw [←dt.o];exact dA.o) hfr eU.o;refine rt aY ?_;exact dc.iI (.node bA bB bC bD bs bt bu bo bx bw bp bz) (by rw [gN.o,←dt.o,dK.o]) rfl cm fy gB
 ·have aD:=C (hoN ds);have Cx:(op==o)=false:=by simpa using ds
  rcases aO with ⟨rfl,rfl | rfl | rfl⟩ | ⟨rfl,rfl | rfl | rfl⟩
  all_goals
   have hj:=C (I.refl [] aE);clear lB hoN cd cz iy aW j8 cZ cq aj mL;obtain ⟨ar,c1,c2,an,av,ay,ax,az⟩:=bI.o.ez;obtain ⟨c6,y1,dp,eb,ef,ej,ek,el,oh⟩:=ew lA.o;go_enter Tryz.func12,Tryz.ntmps12
   go_upto_region 2 with fail
   rw [←c7.o,←aB.o];obtain ⟨z0,z1,z2,z3,z4,z5,b9,cc,cj,cw,bQ⟩:=gR aB.o aH.o hj.o ba.o;go_wp2;refine rt cw.o ?_;exact dc.dL aD.o rfl bQ.o
theorem amU (m:MRe) (w:World) (aj:m.aK w) (aJ:m.ab.dE) (ad:m.ab.bm≤100000):
  Calls Tryz.prog 12 #[H J 4,m.val] w (dc w m.aw (oe 3 w5 KW m.ab)):=by
 refine Iz aj 4 3 _ (.inl ⟨rfl,.inl rfl⟩) (fun W h ds=> ?_) (fun h=> by unfold oe;rw [if_neg h]);unfold oe;rw [if_pos ds];exact Iw 4 w5 KW m W (aj.ah h) aJ (by rw [ds];decide) ad (fun a b ak b8 ad sM sN jy bb=> anh a b ak b8 ad sM sN jy bb)
theorem amV (m:MRe) (w:World) (aj:m.aK w) (aJ:m.ab.dE) (ad:m.ab.bm≤100000):
  Calls Tryz.prog 12 #[H J 5,m.val] w (dc w m.aw (oe 3 zi Mj m.ab)):=by
 refine Iz aj 5 3 _ (.inl ⟨rfl,.inr (.inl rfl)⟩) (fun W h ds=> ?_) (fun h=> by unfold oe;rw [if_neg h]);unfold oe;rw [if_pos ds];exact Iw 5 zi Mj m W (aj.ah h) aJ (by rw [ds];decide) ad (fun a b ak b8 ad sM sN jy bb=> ani a b ak b8 ad sM sN jy bb)
theorem amW (m:MRe) (w:World) (aj:m.aK w) (aJ:m.ab.dE) (ad:m.ab.bm≤100000):
  Calls Tryz.prog 12 #[H J 6,m.val] w (dc w m.aw (oe 3 tc (fun a b=> .node 1 (nv a.set b.set) [] 0 0 0 0 false) m.ab)):=by
 refine Iz aj 6 3 _ (.inl ⟨rfl,.inr (.inr rfl)⟩) (fun W h ds=> ?_) (fun h=> by unfold oe;rw [if_neg h]);unfold oe;rw [if_pos ds];exact Iw 6 tc (fun a b=> .node 1 (nv a.set b.set) [] 0 0 0 0 false) m W (aj.ah h) aJ (by rw [ds];decide) ad (fun a b ak b8 ad sM sN jy bb=> anj a b ak b8 ad sM sN)
theorem amZ (m:MRe) (w:World) (aj:m.aK w) (aJ:m.ab.dE) (ad:m.ab.bm≤100000):
  Calls Tryz.prog 12 #[H J 9,m.val] w (dc w m.aw (oe 2 x8 (fun _ b=> b) m.ab)):=by
 refine Iz aj 9 2 _ (.inr ⟨rfl,.inl rfl⟩) (fun W h ds=> ?_) (fun h=> by unfold oe;rw [if_neg h]);unfold oe;rw [if_pos ds];exact Iw 9 x8 (fun _ b=> b) m W (aj.ah h) aJ (by rw [ds];decide) ad (fun a b ak b8 ad sM sN jy bb=> ank a b ak b8 ad sM jy bb)
theorem amK (m:MRe) (w:World) (aj:m.aK w) (aJ:m.ab.dE) (ad:m.ab.bm≤100000):
  Calls Tryz.prog 12 #[H J 10,m.val] w (dc w m.aw (oe 2 x2 (fun _ b=> b) m.ab)):=by
 refine Iz aj 10 2 _ (.inr ⟨rfl,.inr (.inl rfl)⟩) (fun W h ds=> ?_) (fun h=> by unfold oe;rw [if_neg h]);unfold oe;rw [if_pos ds];exact Iw 10 x2 (fun _ b=> b) m W (aj.ah h) aJ (by rw [ds];decide) ad (fun a b ak b8 ad sM sN jy bb=> anf a b ak b8 ad sM sN jy bb)
theorem amL (m:MRe) (w:World) (aj:m.aK w) (aJ:m.ab.dE) (ad:m.ab.bm≤100000):
  Calls Tryz.prog 12 #[H J 11,m.val] w (dc w m.aw (oe 2 y9 (fun a _=> .node 4 [] [a] 1 (-1) 0 0 false) m.ab)):=by
 refine Iz aj 11 2 _ (.inr ⟨rfl,.inr (.inr rfl)⟩) (fun W h ds=> ?_) (fun h=> by unfold oe;rw [if_neg h]);unfold oe;rw [if_pos ds];exact Iw 11 y9 (fun a _=> .node 4 [] [a] 1 (-1) 0 0 false) m W (aj.ah h) aJ (by rw [ds];decide) ad (fun a b ak b8 ad sM sN jy bb=> ang a b ak b8 ad sN jy bb)
end Go.Proofs.YtjnlkjlbejelgaaGreat
