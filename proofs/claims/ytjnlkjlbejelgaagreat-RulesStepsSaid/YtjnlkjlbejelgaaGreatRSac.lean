/- Part of the proof. No condition: every lemma says its own. -/
import Derived.Test.YtjnlkjlbejelgaaGreatRSPav
import Derived.Test.YtjnlkjlbejelgaaGreatRSab
namespace Go.Proofs.YtjnlkjlbejelgaaGreat
open Go.RowKit Go.Sort Go.BigFrame
open Go.Value renaming int→H,slice→M,bool→F
open Go.IntKind renaming i64→J
open Go.RowKit
set_option maxRecDepth 100000
set_option maxHeartbeats 16000000
theorem L3 (ka:Option Addr) (kc:Nat) (kids:List MRe) (w:World) (hk:gT w ka kc kids):
  Calls Tryz.prog 55 #[M ka kids.length kc] w fun e w'=> ∃ m:MRe,e=.returned m.val∧m.ab=im 2 (MRe.al kids)∧m.aK w'∧I [] w w'∧∀ b∈m.aw,b∈df kids.length ka ++ MRe.dN kids:=by
 have b6:=C hk;clear hk
 by_cases h1:kids.length=1
 ·obtain ⟨b,off,rfl,ad,hx⟩:=b6.o.ch.dy (by omega);have eD:=hx 0 (by omega);have cm:=b6.o.all kids[0] (List.getElem_mem (by omega));have qB:∀ ae∈kids[0].aw,ae∈df kids.length (some ⟨b,off,none⟩) ++ MRe.dN kids:=fun x hx=> List.mem_append_right _ (MRe.mQ (List.getElem_mem _) hx);have I4:=C qB;clear qB;have sn:im 2 (MRe.al kids)=kids[0].ab:=by
   match kids,h1 with
   | [x],_=> rfl
  have tQ:=C sn;have jq:=C cm
  generalize kids[0]=m at *
  obtain ⟨bW,cQ⟩:∃ bW,bW=m:=⟨_,rfl⟩;rw [←cQ] at tQ jq I4;have HM:=C cQ;clear cQ;obtain ⟨op1,aM,aN,set1,aS,kc1,aq,mn1,aI,mode1,n1,aL⟩:=m;have g:=eD.node;rw [Nat.zero_mul,Nat.add_zero] at g;obtain ⟨ar,c1,c2,an,av,ay,ax,az⟩:=id g;clear g eD sn cm hx;have jC:(kids.length:Int)=1:=by omega
  go_enter Tryz.func55,Tryz.ntmps55
  go_upto_region 2 with fail
  go_wp2_with (refine wpList_store_row rfl 26 (.tmp 2) (.tmp 8) rfl w.heap.size #[H J op1,M aM set1.length aN,M aS aq.length kc1,H J mn1,H J aI,H J mode1,H J n1,F aL] rfl rfl 26 #[H J 0,M none 0 0,M none 0 0,H J 0,H J 0,H J 0,H J 0,F false] (heap_alloc_new w _) mB rfl (Pf _ _ _ _ _ _ _ _ _ _ _ _) ?_)
  have aY:=setRow_heap (w.alloc cO) w.heap.size _ #[H J op1,M aM set1.length aN,M aS aq.length kc1,H J mn1,H J aI,H J mode1,H J n1,F aL] 26 (0,0) (heap_alloc_new w _);refine mA aY ?_;have kk:I [] w ((w.alloc cO).setRow w.heap.size #[H J op1,M aM set1.length aN,M aS aq.length kc1,H J mn1,H J aI,H J mode1,H J n1,F aL]):=((I.refl [] w).alloc _).setRow (.inr (Nat.le_refl _)) _;refine ⟨bW,by rw [HM.o];rfl,by rw [tQ.o],jq.o.ah kk,kk,I4.o⟩
 ·have sn:im 2 (MRe.al kids)=.node 2 [] (MRe.al kids) 0 0 0 0 false:=by
   match kids,h1 with
   | [],_=> rfl
   | x::y::r,_=> rfl
  have tQ:=C sn;clear sn;have hcap:=b6.o.ch.cap;have fc:=b6.o.ch.le;unfold maxLen at hcap;go_enter Tryz.func55,Tryz.ntmps55
  go_wp2;refine bodyPost_ret (results_cell_row rfl _ _ w.heap.size 26 #[H J 2,M none 0 0,M ka kids.length kc,H J 0,H J 0,H J 0,H J 0,F false] (0,0) _ rfl (heap_alloc_new w _) Tryz.underlying26 rfl mB) rfl ?_;exact ⟨.node 2 none 0 [] ka kc kids 0 0 0 0 false,rfl,by rw [tQ.o];rfl,.hR (eK.nil _) (b6.o.ah (I.a1 _ _)),I.a1 _ _,fun b ad=> by simpa [MRe.aw,RA] using ad⟩
theorem an8 (t:Tree):oI t=(t.op==4 && (t.mn==0 && (t.mx== -1 && t.mode==0))):=by
 unfold oI sg
 cases t.op==4 <;> cases t.mn==0 <;> cases t.mx== -1 <;> cases t.mode==0 <;> rfl
theorem UP (m1 m2:MRe) (w:World) (aj:m1.aK w) (cV:m2.aK w) (aJ:m1.ab.dE) (b1:m1.ab.bm≤100000) (b2:m2.ab.bm≤100000):
  Calls Tryz.prog 133 #[m1.val,m2.val] w fun e w'=> e=.returned (F (oI m1.ab && iQ (tA m1.ab) m2.ab))∧I [] w w':=by
 obtain ⟨R,aC⟩:∃ R,R=(oI m1.ab && iQ (tA m1.ab) m2.ab):=⟨_,rfl⟩;rw [←aC];rw [an8] at aC;obtain ⟨bW,cQ⟩:∃ bW,bW=m1:=⟨_,rfl⟩;rw [←cQ] at aj aJ b1;have hA:=cQ;obtain ⟨op1,aM,aN,set1,aS,kc1,aq,mn1,aI,mode1,n1,aL⟩:=m1;obtain ⟨n0,iC⟩:∃ n0,n0=m2:=⟨_,rfl⟩;rw [←iC] at cV b2;have hB:=iC;obtain ⟨op2,cg,cf,bj,ct,kc2,a8,mn2,bY,bX,bn,bZ⟩:=m2;replace aC:R=((op1==4 && (mn1==0 && (aI== -1 && mode1==0))) && iQ (tA bW.ab) n0.ab):=by rw [aC,cQ,iC];rfl
 have hmo:bW.ab.op=op1:=by rw [cQ];rfl
 simp only [MRe.val]
 by_cases h4:op1=4
 ·by_cases hn:mn1=0
  ·by_cases hx:aI= -1
   ·by_cases ds:mode1=0
    ·obtain ⟨b3,iV,fk,Af,n7,mI,mJ,il,l7,hln⟩:=Gy aj aJ (by rw [hmo];exact h4) hA;have Dt:fk.ab.bm≤100000:=by rw [cQ] at b1;exact (lG b1).2.2 _ n7
     have gw:=fun (W:World) (h:I [] w W)=> L9 fk n0 W (mJ.ah h) (cV.ah h) Dt b2;rw [il] at aC;obtain ⟨ae,hq⟩:∃ ae,ae=iQ fk.ab n0.ab:=⟨_,rfl⟩;simp only [←hq] at gw aC;have aD:=C (show R=ae by rw [aC,h4,hn,hx,ds];simp);have da:n0.val=.agg #[H J op2,M cg bj.length cf,M ct a8.length kc2,H J mn2,H J bY,H J bX,H J bn,F bZ]:=by rw [iC];rfl
     simp only [da] at gw;obtain ⟨op3,dk,dm,set3,di,dj,kids3,cA,cC,cB,cv,cx⟩:=fk;have g:=mI.node;obtain ⟨bg,aV,a6,bl,bq,bE,bF,bH⟩:=id g;simp only [MRe.val] at gw;obtain ⟨U,aA,ar,c1,c2,an,av,ay,ax,az,bK,d1,d2,bL,bO,bT,bU,bV,dw,aB,aZ⟩:=nc w op1 aM aN set1 aS kc1 aq mn1 aI mode1 n1 aL op2 cg cf bj ct kc2 a8 mn2 bY bX bn bZ;obtain ⟨dv,dI,ea,fo,gO,ha,hb,hd⟩:=aZ.o.au bg aV a6 bl bq bE bF bH;have qx:∀ d os,Calls Tryz.prog 95 #[.agg #[H J op3,M dk set3.length dm,M di kids3.length dj,H J cA,H J cC,H J cB,H J cv,F cx],.agg #[H J op2,M cg bj.length cf,M ct a8.length kc2,H J mn2,H J bY,H J bX,H J bn,F bZ]] (grow (redrawn aA d) os) fun e jw=> e=.returned (F ae)∧∃ p:Regrown,jw=grow (redrawn aA p.d) p.os:=fun d os=> Calls.regrown_of ((gw _ (aZ.o.trans (I.kY (below_regrown aA d os)))).mono fun e w' ⟨he,hk⟩=> ⟨he,hk.below (Nat.le_refl _)⟩);have rp:=C qx;have u0:=cell_regrown ar;have u1:=cell_regrown c1;have u2:=cell_regrown c2;have u3:=cell_regrown an;have u4:=cell_regrown av;have u5:=cell_regrown ay;have u6:=cell_regrown ax;have u7:=cell_regrown az;have v0:=cell_regrown bK;have v1:=cell_regrown d1;have v2:=cell_regrown d2;have v3:=cell_regrown bL;have v4:=cell_regrown bO;have v5:=cell_regrown bT;have v6:=cell_regrown bU;have v7:=cell_regrown bV;have c6:=cell_regrown dv;have y1:=cell_regrown dI;have dp:=cell_regrown ea;have eb:=cell_regrown fo;have ef:=cell_regrown gO;have ej:=cell_regrown ha;have ek:=cell_regrown hb;have el:=cell_regrown hd;subst Af;subst h4;subst hn;subst hx;subst ds;clear qx gw ar c1 c2 an av ay ax az bK d1 d2 bL bO bT bU bV dv dI ea fo gO ha hb hd g bg aV a6 bl bq bE bF bH aj cV aJ hA cQ iC hB n7 mI mJ il hq aC b1 b2 Dt da hmo;go_enter Tryz.func133,Tryz.ntmps133
     go_upto_region 1 with fail
     rw [←dw.o,←aB.o];refine wp_region_quiet_below (by kernel_rfl) (by kernel_rfl) ?_
     repeat (go_big_quiet_step (exact rp.o _ _))
     refine wpQuiet_nil ?_;intro _ i7;obtain ⟨dY,jK⟩:=i7;subst jK;have hk:=I.kY (below_regrown aA dY.d dY.os);have b6:=C (aZ.o.trans hk);clear hk u0 u1 u2 u3 u4 u5 u6 u7 v0 v1 v2 v3 v4 v5 v6 v7 c6 y1 dp eb ef ej ek el
     generalize grow (redrawn aA dY.d) dY.os=fO at *
     go_wp2;go_ret;exact ⟨by rw [aD.o];rfl,b6.o⟩
    ·have ad:(mode1==0)=false:=by simpa using ds
     have aD:=C (show R=false by rw [aC,ad];simp);clear aC hA hB cQ iC aj cV aJ b1 b2 hmo;obtain ⟨U,aA,ar,c1,c2,an,av,ay,ax,az,bK,d1,d2,bL,bO,bT,bU,bV,dw,aB,aZ⟩:=nc w op1 aM aN set1 aS kc1 aq mn1 aI mode1 n1 aL op2 cg cf bj ct kc2 a8 mn2 bY bX bn bZ;subst h4;subst hn;subst hx;go_enter Tryz.func133,Tryz.ntmps133
     go_upto_region 1 with fail
     rw [←dw.o,←aB.o]
     go_quiet (fail)
     go_wp2;go_ret;exact ⟨by rw [aD.o];rfl,aZ.o.drewN _⟩
   ·have ad:(aI== -1)=false:=by simpa using hx
    have aD:=C (show R=false by rw [aC,ad];simp);clear aC hA hB cQ iC aj cV aJ b1 b2 hmo;obtain ⟨U,aA,ar,c1,c2,an,av,ay,ax,az,bK,d1,d2,bL,bO,bT,bU,bV,dw,aB,aZ⟩:=nc w op1 aM aN set1 aS kc1 aq mn1 aI mode1 n1 aL op2 cg cf bj ct kc2 a8 mn2 bY bX bn bZ;subst h4;subst hn;go_enter Tryz.func133,Tryz.ntmps133
    go_upto_region 1 with fail
    rw [←dw.o,←aB.o]
    go_quiet (fail)
    go_wp2;go_ret;exact ⟨by rw [aD.o];rfl,aZ.o.drewN _⟩
  ·have ad:(mn1==0)=false:=by simpa using hn
   have aD:=C (show R=false by rw [aC,ad];simp);clear aC hA hB cQ iC aj cV aJ b1 b2 hmo;obtain ⟨U,aA,ar,c1,c2,an,av,ay,ax,az,bK,d1,d2,bL,bO,bT,bU,bV,dw,aB,aZ⟩:=nc w op1 aM aN set1 aS kc1 aq mn1 aI mode1 n1 aL op2 cg cf bj ct kc2 a8 mn2 bY bX bn bZ;subst h4;go_enter Tryz.func133,Tryz.ntmps133
   go_upto_region 1 with fail
   rw [←dw.o,←aB.o]
   go_quiet (fail)
   go_wp2;go_ret;exact ⟨by rw [aD.o];rfl,aZ.o.drewN _⟩
 ·have ad:(op1==4)=false:=by simpa using h4
  have aD:=C (show R=false by rw [aC,ad];simp);clear aC hA hB cQ iC aj cV aJ b1 b2 hmo;obtain ⟨U,aA,ar,c1,c2,an,av,ay,ax,az,bK,d1,d2,bL,bO,bT,bU,bV,dw,aB,aZ⟩:=nc w op1 aM aN set1 aS kc1 aq mn1 aI mode1 n1 aL op2 cg cf bj ct kc2 a8 mn2 bY bX bn bZ;go_enter Tryz.func133,Tryz.ntmps133
  go_upto_region 1 with fail
  rw [←dw.o,←aB.o]
  go_quiet (fail)
  go_wp2;go_ret;exact ⟨by rw [aD.o];rfl,aZ.o.drewN _⟩
def yB (t:Tree):Bool:=t.op==4 && (decide (t.mn≤1) && (t.mx== -1 && t.mode==0))
theorem acV (m:MRe) (w:World):
  Calls Tryz.prog 51 #[m.val] w fun e w'=> e=.returned (F (yB m.ab))∧I [] w w':=by
 obtain ⟨R,aC⟩:∃ R,R=yB m.ab:=⟨_,rfl⟩;rw [←aC];obtain ⟨op,sa,sc,set,ka,kc,kids,mn,mx,mode,n,neg⟩:=m;replace aC:R=(op==4 && (decide (mn≤1) && (mx== -1 && mode==0))):=aC;simp only [MRe.val]
 by_cases h4:op=4
 ·by_cases hn:mn≤1
  ·by_cases hx:mx= -1
   ·by_cases ds:mode=0
    ·have aD:=C (show R=true by rw [aC,h4,hx,ds];simp [hn]);clear aC;obtain ⟨U,aA,ar,c1,c2,an,av,ay,ax,az,dw,aB,aZ⟩:=tD w op sa sc set ka kc kids mn mx mode n neg;subst h4;subst hx;subst ds;go_enter Tryz.func51,Tryz.ntmps51
     go_upto_region 1 with fail
     rw [←dw.o,←aB.o];go_wp2;go_ret;exact ⟨by rw [aD.o];rfl,aZ.o⟩
    ·have ad:(mode==0)=false:=by simpa using ds
     have aD:=C (show R=false by rw [aC,ad];simp);clear aC;obtain ⟨U,aA,ar,c1,c2,an,av,ay,ax,az,dw,aB,aZ⟩:=tD w op sa sc set ka kc kids mn mx mode n neg;subst h4;subst hx;go_enter Tryz.func51,Tryz.ntmps51
     go_upto_region 1 with fail
     rw [←dw.o,←aB.o];go_wp2;go_ret;exact ⟨by rw [aD.o];rfl,aZ.o⟩
   ·have ad:(mx== -1)=false:=by simpa using hx
    have aD:=C (show R=false by rw [aC,ad];simp);clear aC;obtain ⟨U,aA,ar,c1,c2,an,av,ay,ax,az,dw,aB,aZ⟩:=tD w op sa sc set ka kc kids mn mx mode n neg;subst h4;go_enter Tryz.func51,Tryz.ntmps51
    go_upto_region 1 with fail
    rw [←dw.o,←aB.o];go_wp2;go_ret;exact ⟨by rw [aD.o];rfl,aZ.o⟩
  ·have aD:=C (show R=false by rw [aC];simp [hn]);have akk:1 < mn:=by omega
   clear aC;obtain ⟨U,aA,ar,c1,c2,an,av,ay,ax,az,dw,aB,aZ⟩:=tD w op sa sc set ka kc kids mn mx mode n neg;subst h4;go_enter Tryz.func51,Tryz.ntmps51
   go_upto_region 1 with fail
   rw [←dw.o,←aB.o];go_wp2;go_ret;exact ⟨by rw [aD.o];rfl,aZ.o⟩
 ·have ad:(op==4)=false:=by simpa using h4
  have aD:=C (show R=false by rw [aC,ad];simp);clear aC;obtain ⟨U,aA,ar,c1,c2,an,av,ay,ax,az,dw,aB,aZ⟩:=tD w op sa sc set ka kc kids mn mx mode n neg;go_enter Tryz.func51,Tryz.ntmps51
  go_upto_region 1 with fail
  rw [←dw.o,←aB.o];go_wp2;go_ret;exact ⟨by rw [aD.o];rfl,aZ.o⟩
theorem amI (m1 m2:MRe) (w:World) (aj:m1.aK w) (cV:m2.aK w) (aJ:m1.ab.q7) (cP:m2.ab.q7) (b1:m1.ab.bm≤100000) (b2:m2.ab.bm≤100000):
  Calls Tryz.prog 97 #[m1.val,m2.val] w fun e w'=> e=.returned (F (Ho m1.ab m2.ab))∧I [] w w':=by
 obtain ⟨gq,hi,dQ,fj,eI⟩:=info_parts F9;have gH:=C hi;have gI:=C dQ;have gJ:=C fj;have gK:=C eI;clear hi dQ fj eI;have mm:=fun (W:World) (h:I [] w W)=> acS m1 W (aj.ah h) aJ b1;have rY:=fun (W:World) (h:I [] w W)=> acS m2 W (cV.ah h) cP b2;have vu:=fun (x:Int) (W:World) (h:I [] w W)=> acR x m1 W (aj.ah h) aJ;have r0:=fun (x:Int) (W:World) (h:I [] w W)=> acR x m2 W (cV.ah h) cP;have oB:=RB m1.ab;have m6:=RB m2.ab;obtain ⟨R,aC⟩:∃ R,R=Ho m1.ab m2.ab:=⟨_,rfl⟩;rw [←aC];unfold Ho at aC;obtain ⟨r4,Kt⟩:∃ fs,fs=se m1.ab:=⟨_,rfl⟩;obtain ⟨q4,Ku⟩:∃ fs,fs=se m2.ab:=⟨_,rfl⟩;rw [←Kt] at oB aC;rw [←Ku] at m6 aC;simp only [←Kt] at mm;simp only [←Ku] at rY;obtain ⟨p1,hp1⟩:∃ p:Int→Bool,p=fun x=> nF x m1.ab:=⟨_,rfl⟩;obtain ⟨p2,Bs⟩:∃ p:Int→Bool,p=fun x=> nF x m2.ab:=⟨_,rfl⟩;have aC:R=(r4 ++ q4).all fun x=> !(p1 x && p2 x):=by rw [aC,hp1,Bs]
 have vu:∀ (x:Int) (W:World),I [] w W→Calls Tryz.prog 135 #[m1.val,H J x] W fun e w'=> e=.returned (F (p1 x))∧I [] W w':=by rw [hp1];exact vu
 have r0:∀ (x:Int) (W:World),I [] w W→Calls Tryz.prog 135 #[m2.val,H J x] W fun e w'=> e=.returned (F (p2 x))∧I [] W w':=by rw [Bs];exact r0
 have dW:=C aC;have Lk:(r4 ++ q4).length≤400000:=by rw [List.length_append];omega
 have aqJ:r4.length≤200000:=by omega
 have aqK:q4.length≤200000:=by omega
 obtain ⟨op1,aM,aN,set1,aS,kc1,aq,mn1,aI,mode1,n1,aL⟩:=m1;obtain ⟨op2,cg,cf,bj,ct,kc2,a8,mn2,bY,bX,bn,bZ⟩:=m2;simp only [MRe.val] at mm rY vu r0 ⊢;have mm:=C mm;have rY:=C rY;have vu:=C vu;have r0:=C r0;clear aC Kt Ku hp1 Bs oB m6 aj cV aJ cP b1 b2;obtain ⟨U,aA,ar,c1,c2,an,av,ay,ax,az,bK,d1,d2,bL,bO,bT,bU,bV,dw,aB,aZ⟩:=nc w op1 aM aN set1 aS kc1 aq mn1 aI mode1 n1 aL op2 cg cf bj ct kc2 a8 mn2 bY bX bn bZ;go_enter Tryz.func97,Tryz.ntmps97
 go_upto_region 1 with fail
 rw [←dw.o,←aB.o]
 go_cut [5] (fun kh db=> ∃ (ak:World) (a:Option Nat) (c:Nat),ak=db∧kh=de a (r4 ++ q4).length c∧cr ak 3 1 a (r4 ++ q4).length c ((r4 ++ q4).map (H J))∧I [] aA ak)
 case first=>
  refine rg (S:=fun w'=> (iK w' U op1 aM set1 aN aS aq kc1 mn1 aI mode1 n1 aL)∧(iK w' ((U+1)) op2 cg bj cf ct a8 kc2 mn2 bY bX bn bZ)) (fun _ k=> ⟨(k.au ar c1 c2 an av ay ax az),(k.au bK d1 d2 bL bO bT bU bV)⟩) fun bM aF=> ?_;refine ag 0 ?_;refine ag 2 ?_;refine bh 1 fun ai af=> ?_;go_simp
  go_at_call 134
  refine Calls.mono (mm.o _ (aZ.o.drew)) ?_;rintro e w3 ⟨a3,kr,rfl,kW,aP,il⟩;have E2:=C kW;have aR:=C (((I.refl [] aA).drew).trans aP);have IV:=C (show ∀ g,a3=some g→aA.heap.size≤g from il);clear kW aP il;simp only [de];refine af.out _ _ (bM.o _ aR.o) fun aF=> ?_;clear af ai;try go_frame
  refine bh 3 fun ai af=> ?_;go_simp
  go_at_call 134
  refine Calls.mono (rY.o _ (aZ.o.trans aR.o)) ?_;rintro e w4 ⟨a4,ml,rfl,lp,bc,hg4⟩;have zD:=C lp;have ag9:=C (E2.o.ah bc (by simp));have cl:=C (aR.o.trans bc);clear lp bc hg4;simp only [de];refine af.out _ _ (bM.o _ cl.o) fun aF=> ?_;clear af ai;try go_frame
  refine bh 4 fun ai af=> ?_;refine wh (.tmp 8) (.tmp 10) 22 rfl 3 gq _ 1 8 Tryz.underlying22 gH.o gI.o gJ.o gK.o rfl (by decide) a3 r4.length kr _ rfl ag9.o (a4.map fun g=> ⟨g,0,none⟩) q4.length ml (q4.map (H J)) rfl (by simp) zD.o.src (CF q4) (by omega) (by omega) ?_;intro a5 kK bS yM hk5 NQ;rw [←List.map_append,←List.length_append] at yM;have aha:=C yM;have dr:=C (show I [] aA bS from cl.o.cn hk5 (by intro x hx;simp at hx;exact .inr (IV.o x hx)));clear yM hk5 NQ;rw [←List.length_append];refine af.out _ _ (bM.o _ dr.o) fun aF=> ?_;clear af ai;try go_frame
  refine ag 5 ?_;refine dR ?_;go_wp2;go_meet;exact ⟨_,a5,kK,rfl,by rw [List.length_append],aha.o,dr.o⟩
 case rest=>
  obtain ⟨ak,a,c,rfl,rfl,dd,dh⟩:=hcut;have hU:=C dd;have dG:=C dh;obtain ⟨fs,rE⟩:∃ fs,fs=r4 ++ q4:=⟨_,rfl⟩;rw [←rE] at hU dW Lk ⊢;clear dd rE;simp only [de];go_wp2
  go_loopw [6] (fun i wr=> ∃ k:Nat,k≤fs.length∧i=H J k∧((fs.take k).all fun x=> !(p1 x && p2 x))=true∧I [] ak wr) (fun i _=> fs.length - (intOf i).toNat)
  case atStart=> exact ⟨0,Nat.zero_le _,rfl,by rw [List.take_zero];rfl,I.refl _ _⟩
  case round=>
   obtain ⟨k,gC,rfl,fB,ck⟩:=hrel;have eg:=C fB;have cX:=C (dh.trans ck);have ma:=C ck;obtain ⟨c0,cT,s2,lR,kM,kh,k7,lJ⟩:=cX.o.au ar c1 c2 an av ay ax az;obtain ⟨t0,t1,fu,t3,t4,t5,jm,jn⟩:=cX.o.au bK d1 d2 bL bO bT bU bV;have yv:=hU.o.ah ck (by simp);clear fB ck ar c1 c2 an av ay ax az bK d1 d2 bL bO bT bU bV dh
   by_cases aQ:k < fs.length
   ·cases a with
    | none=> exfalso;have:=yv.2.1;omega
    | some g=>
     have hx:=yv.cell k (by simpa using aQ);have hx:wr.cell? ⟨g,k,none⟩=some (H J fs[k]):=by rw [hx];simp
     have sY:fs.take (k + 1)=fs.take k ++ [fs[k]]:=List.take_succ_eq_append_getElem aQ;have hmem:fs[k]∈fs:=List.getElem_mem aQ;obtain ⟨x,LD⟩:∃ x,x=fs[k]:=⟨_,rfl⟩;rw [←LD] at hx sY hmem;have GU:=vu.o x;have C5:=r0.o x;have Aj:(!(p1 x && p2 x))=true→((fs.take (k + 1)).all fun x=> !(p1 x && p2 x))=true:=fun h=> by rw [sY,List.all_append,eg.o,List.all_cons,List.all_nil,h];rfl
     have DO:(!(p1 x && p2 x))=false→R=false:=fun h=> by
      rw [dW.o]
      cases hq:fs.all fun x=> !(p1 x && p2 x) with
      | false=> rfl
      | true=> rw [List.all_eq_true.1 hq x hmem] at h;cases h
     obtain ⟨q1,p3⟩:∃ ae,ae=p1 x:=⟨_,rfl⟩;obtain ⟨q2,rf⟩:∃ ae,ae=p2 x:=⟨_,rfl⟩;simp only [←p3] at GU Aj DO;simp only [←rf] at C5 Aj DO;have GU:=C GU;have C5:=C C5;have dP:=C Aj;have gj:=C DO;have Cv:(k:Int) < (fs.length:Int):=by omega
     have je:(0:Int)≤(k:Int):=by omega
     clear sY hmem LD Aj DO p3 rf yv;simp only [Option.map_some];go_wp2;refine rg (S:=fun w'=> ((iK w' U op1 aM set1 aN aS aq kc1 mn1 aI mode1 n1 aL)∧(iK w' ((U+1)) op2 cg bj cf ct a8 kc2 mn2 bY bX bn bZ))∧w'.cell? ⟨g,k,none⟩=some (H J x)) (fun _ k=> ⟨⟨(k.au c0 cT s2 lR kM kh k7 lJ),(k.au t0 t1 fu t3 t4 t5 jm jn)⟩,k.c hx⟩) fun bM aF=> ?_;refine ag 0 ?_;refine ag 1 ?_;refine ag 2 ?_;refine ag 3 ?_;refine ag 4 ?_;refine bh 5 fun ai af=> ?_;go_simp
     go_at_call 135
     refine Calls.mono (GU.o _ ((aZ.o.trans cX.o).drew)) ?_;rintro e w3 ⟨rfl,aP⟩;have k0:=C (((I.refl [] wr).drew).trans aP);clear aP;refine af.out _ _ (bM.o _ k0.o) fun aF=> ?_;clear af ai;try go_frame
     refine ag 6 ?_
     cases q1 with
     | false=>
      refine c9 7 ?_;refine c9 8 ?_;refine c9 9 ?_;refine c9 10 ?_;refine c9 11 ?_;refine RC (i:=12) rfl (by kernel_rfl) (by rfl) (by assumption) ?_;try go_frame
      refine ag 13 ?_;refine dR ?_;have ey:=C (dP.o rfl);have kl:=C (ma.o.trans k0.o);clear c0 cT s2 lR kM kh k7 lJ t0 t1 fu t3 t4 t5 jm jn hx aF;go_wp2;go_roundw
      case rel=> exact ⟨k + 1,by omega,by go_num,ey.o,kl.o⟩
      case measure=> simp [intOf];omega
     | true=>
      refine ag 7 ?_;refine ag 8 ?_;refine ag 9 ?_;refine ag 10 ?_;refine ag 11 ?_;refine bh 12 fun ai af=> ?_;go_simp
      go_at_call 135
      refine Calls.mono (C5.o _ ((aZ.o.trans cX.o).trans k0.o)) ?_;rintro e w4 ⟨rfl,bc⟩;have xn:=C (k0.o.trans bc);clear bc;refine af.out _ _ (bM.o _ xn.o) fun aF=> ?_;clear af ai;try go_frame
      refine ag 13 ?_;refine dR ?_;have kl:=C (ma.o.trans xn.o);have c4:=C ((aZ.o.trans cX.o).trans xn.o);clear c0 cT s2 lR kM kh k7 lJ t0 t1 fu t3 t4 t5 jm jn hx aF
      cases q2 with
      | false=>
       have ey:=C (dP.o rfl);go_wp2;go_roundw
       case rel=> exact ⟨k + 1,by omega,by go_num,ey.o,kl.o⟩
       case measure=> simp [intOf];omega
      | true=>
       have aD:=C (gj.o rfl);go_wp2;go_ret;exact ⟨by rw [aD.o];rfl,c4.o⟩
   ·obtain rfl:k=fs.length:=by omega
    have aD:=C (show R=true by rw [dW.o,←eg.o,List.take_length]);clear c0 cT s2 lR kM kh k7 lJ t0 t1 fu t3 t4 t5 jm jn yv;go_wp2;go_ret;exact ⟨by rw [aD.o];rfl,aZ.o.trans cX.o⟩
theorem Pb {t:Tree} (h:t.dE) (ds:t.op=2∨t.op=3) (i j:Nat) (l:List Tree):UL t i j l=hF t.op t.kids i j l:=by
 cases t with
 | node op set kids mn mx mode n neg=>
  have hn:=h.node;have ds:op=2∨op=3:=ds;have aV:=hn.HU (by omega);obtain ⟨a6,bl,bq⟩:=hn.aai (by omega);have bE:=hn.aag (by omega);have bF:neg=false:=by
   cases hq:neg with
   | false=> rfl
   | true=> have:=hn.Tq hq;omega
  subst aV a6 bl bq bE bF
  show OZ _ (kids.take i ++ (l ++ kids.drop j))=im op (kids.take i ++ (l ++ kids.drop j))
  match kids.take i ++ (l ++ kids.drop j) with
  | []=> rfl
  | [x]=> rfl
  | x::y::r=> rfl
theorem aks {l:List Tree} (h:l.length≤1):oZ l=none:=by
 match l,h with
 | [],_=> rfl
 | [x],_=> simp [oZ,qP]
theorem am9 (m:MRe) (w:World) (aj:m.aK w) (aJ:m.ab.dE) (tw:m.ab.op=2) (ad:m.ab.bm≤100000):
  Calls Tryz.prog 53 #[m.val] w (dc w m.aw (p0 m.ab)):=by
 obtain ⟨R,aC⟩:∃ R,R=p0 m.ab:=⟨_,rfl⟩;rw [←aC];have Cz:=fun i l=> Pb aJ (.inl tw) i (i + 1) l;have LA:=fun (W:World) (h:I [] w W) (i:Nat) (cS:Option Addr) (l:MRe)=> Pc m i (i + 1) cS 1 [l] W (aj.ah h);obtain ⟨op,sa,sc,set,ka,kc,kids,mn,mx,mode,n,neg⟩:=m;obtain ⟨hbl,_,hbk⟩:=lG ad;have fY:=C hbk;have nz:=C (show Tree.ed (MRe.al kids)≤100000 by
  have:1 + set.length + Tree.ed (MRe.al kids)≤100000:=ad
  omega)
 have eC:=kB aJ;obtain ⟨U,aE,aB,c7,bI,ba,cZ,aH⟩:=rS w op sa sc set ka kc kids mn mx mode n neg;have hj:=C (I.refl [] aE);have hC:=C cZ;have eX:=C LA;have ql:=C Cz;have eU:=C aj.fi;have tw:op=2:=tw;subst tw;simp only [MRe.val];clear ad LA hbk Cz;have jC:=eC.vc (by simp);have dW:=C (show R=(oZ (MRe.al kids)).map fun i=> hF 2 (MRe.al kids) i (i + 1) [tY ((MRe.al kids).getD i .nil)] by rw [aC];simp only [MRe.ab,p0,if_pos]);obtain ⟨b,off,rfl,lk,hx⟩:=aj.ch.dy (by omega);have hcap:=aj.ch.cap;have fc:=aj.ch.le;unfold maxLen at hcap;have hM:=C hx;have iL:=C aj;have C6:=C aJ;clear aC hx aj aJ eC lk;obtain ⟨ar,c1,c2,an,av,ay,ax,az⟩:=bI.o.ez;go_enter Tryz.func53,Tryz.ntmps53
 go_upto_region 1 with fail
 rw [←c7.o,←aB.o];go_wp2
 go_loopw [4] (fun i wr=> ∃ k:Nat,k < kids.length∧i=H J k∧(oZ ((MRe.al kids).drop k)).map (· + k)=oZ (MRe.al kids)∧I [] aE wr) (fun i _=> kids.length - (intOf i).toNat)
 case atStart=> exact ⟨0,by omega,rfl,by rw [List.drop_zero];cases oZ (MRe.al kids) <;> rfl,I.refl _ _⟩
 case round=>
  obtain ⟨k,hk,rfl,hl,ck⟩:=hrel;have jG:=C hl;have cX:=C ck;obtain ⟨t0,t1,fu,t3,t4,t5,jm,jn⟩:=ck.au ar c1 c2 an av ay ax az;have mN:IntKind.i64.wrap ((k:Int) + 1)=(k:Int) + 1:=IntWalk.i64_in _ (by omega);clear hl ck ar c1 c2 an av ay ax az
  by_cases aQ:k + 1 < kids.length
  ·have ZT:(k:Int) + 1 < (kids.length:Int):=by omega
   have Cv:(k:Int) < (kids.length:Int):=by omega
   have dB:=wt kids k hk;have sV:=hM.o k hk;have cm:=iL.o.dy (List.getElem_mem hk);have Bj:=mS C6.o (List.getElem_mem hk);have SK:=fY.o _ (List.getElem_mem hk);have SL:=mF (op:=2) (sa:=sa) (sc:=sc) (set:=set) (ka:=some ⟨b,off,none⟩) (kc:=kc) (mn:=mn) (mx:=mx) (mode:=mode) (n:=n) (neg:=neg) (List.getElem_mem hk);have xO:(MRe.al kids).getD k .nil=kids[k].ab:=by rw [List.getD_eq_getElem?_getD,List.getElem?_eq_getElem (by rw [MRe.ee];omega),Option.getD_some,kQ]
   obtain ⟨dq,je⟩:∃ dq,dq=kids[k]:=⟨_,rfl⟩;rw [←je] at sV cm Bj SL xO dB SK;have gi:=C dB;have jq:=C cm;have GX:=C Bj;have kS:=C SL;have Jd:=C xO;have PO:=C SK;obtain ⟨k5,hD⟩:∃ k5,k5=dq:=⟨_,rfl⟩;have uH:=C hD;rw [←hD] at gi Jd;have Fy:=iL.o.ch.drop (k + 1) (by omega);obtain ⟨oR,Fp⟩:∃ oR,oR=(if kc=k + 1 then some (⟨b,off,none⟩:Addr) else some ⟨b,off + (k + 1) * 8,none⟩):=⟨_,rfl⟩;obtain ⟨oS,Fq⟩:∃ oS,oS=kc - (k + 1):=⟨_,rfl⟩;have dd:∀ W:World,(Instr.sliceAt 24 (M (some ⟨b,off,none⟩) kids.length kc) (some (H J ((k:Int) + 1))) none none).run Tryz.prog W=.ok (M oR (kids.length - (k + 1)) oS) W:=by
    intro W;have q1:(k:Int) + 1≤kids.length:=by omega
    have q0:(0:Int)≤(k:Int) + 1:=by omega
    have kr:((k:Int) + 1).toNat=k + 1:=by omega
    rw [Fp,Fq]
    by_cases q2:kc=k + 1
    ·simp [go_sem,q1,q0,kr,q2]
    ·simp [go_sem,q1,q0,kr,q2]
   rw [←Fp,←Fq] at Fy;have va:MRe.aK w (.node 2 none 0 [] oR oS (kids.drop (k + 1)) 0 0 0 0 false):=.hR (eK.nil _) ⟨Fy,fun x hx=> iL.o.dy (List.mem_of_mem_drop hx)⟩;have mh:MRe.ab (.node 2 none 0 [] oR oS (kids.drop (k + 1)) 0 0 0 0 false)=.node 2 [] ((MRe.al kids).drop (k + 1)) 0 0 0 0 false:=by
    show Tree.node 2 [] (MRe.al (kids.drop (k + 1))) 0 0 0 0 false=_
    rw [MRe.kP,List.map_drop,←MRe.kP]
   have ue:(MRe.ab (.node 2 none 0 [] oR oS (kids.drop (k + 1)) 0 0 0 0 false)).q7:=by
    rw [mh];exact ao3 fun ae hq=> C6.o.dy (List.mem_of_mem_drop hq)
   have xW:(MRe.ab (.node 2 none 0 [] oR oS (kids.drop (k + 1)) 0 0 0 0 false)).bm≤100000:=by
    rw [mh];have h1:=Tree.Hs (MRe.al kids) (k + 1);have h2:=nz.o;have h3:1 + set.length + Tree.ed (MRe.al kids)≤100001 + set.length:=by omega
    have h4:1≤Tree.ed ((MRe.al kids).take (k + 1)):=by
     have h5:=Tree.Ug ((MRe.al kids).take (k + 1));rw [List.length_take,MRe.ee] at h5;omega
    show 1 + 0 + Tree.ed ((MRe.al kids).drop (k + 1))≤100000
    omega
   have dP:=fun (W:World) (h:I [] w W)=> CR (.node 2 none 0 [] oR oS (kids.drop (k + 1)) 0 0 0 0 false) W (va.ah h) ue;have hB:fA (MRe.ab (.node 2 none 0 [] oR oS (kids.drop (k + 1)) 0 0 0 0 false))=qP ((MRe.al kids).drop (k + 1)):=by rw [mh];rfl
   simp only [hB,MRe.val,List.length_drop,List.length_nil] at dP;have BW:=C va;have mq:=C mh;have qm:=C ue;have Da:=C xW;clear je dB cm Bj SL xO hD Fy Fp Fq va mh ue xW hB SK;obtain ⟨op1,aM,aN,set1,aS,kc1,aq,mn1,aI,mode1,n1,aL⟩:=dq;have g:=sV.node;obtain ⟨bg,aV,a6,bl,bq,bE,bF,bH⟩:=id g;have bK:=(aH.o.trans cX.o).c bg;have d1:=(aH.o.trans cX.o).c aV;have d2:=(aH.o.trans cX.o).c a6;have bL:=(aH.o.trans cX.o).c bl;have bO:=(aH.o.trans cX.o).c bq;have bT:=(aH.o.trans cX.o).c bE;have bU:=(aH.o.trans cX.o).c bF;have bV:=(aH.o.trans cX.o).c bH;clear g bg aV a6 bl bq bE bF bH sV;go_upto_region 5 with fail
   obtain ⟨dJ,n4⟩:∃ dJ,dJ=wr.heap.size:=⟨_,rfl⟩;obtain ⟨aA,c5⟩:∃ aA,aA=wr.alloc (bf op1 aM set1 aN aS aq kc1 mn1 aI mode1 n1 aL):=⟨_,rfl⟩;have eZ:I [] wr aA:=by rw [c5];exact I.a1 _ _
   have sQ:aA.heap[dJ]? =some (bf op1 aM set1 aN aS aq kc1 mn1 aI mode1 n1 aL):=by rw [c5,n4];exact heap_alloc_new wr _
   rw [←c5,←n4];have Fv:aE.heap.size≤dJ:=by rw [n4];exact cX.o.size
   have Hy:U + 2≤dJ:=Nat.le_trans hC.o Fv;have QP:=C Fv;have GV:=C Hy;have aZ:=C (cX.o.trans eZ);obtain ⟨c6,y1,dp,eb,ef,ej,ek,el⟩:=eZ.au t0 t1 fu t3 t4 t5 jm jn;clear n4 c5 eZ t0 t1 fu t3 t4 t5 jm jn bK d1 d2 bL bO bT bU bV Fv Hy;have aeG:=C sQ;clear sQ;go_upto_region 6 with fail
   obtain ⟨iv,Fm⟩:∃ iv,iv=aA.heap.size:=⟨_,rfl⟩;obtain ⟨fO,lh⟩:∃ fO,fO=aA.alloc (.cells #[H J 2,M none 0 0,M oR (kids.length - (k + 1)) oS,H J 0,H J 0,H J 0,H J 0,F false] 26):=⟨_,rfl⟩;have lD:I [] aA fO:=by rw [lh];exact I.a1 _ _
   have Km:fO.heap[iv]? =some (.cells #[H J 2,M none 0 0,M oR (kids.length - (k + 1)) oS,H J 0,H J 0,H J 0,H J 0,F false] 26 (0,0)):=by rw [lh,Fm];exact heap_alloc_new aA _
   rw [←lh,←Fm];have k3:=C (aZ.o.trans lD);have Mx:=C (lD.h aeG.o);have aeI:=C Km;obtain ⟨c0,cT,s2,lR,kM,kh,k7,lJ⟩:=lD.au c6 y1 dp eb ef ej ek el;obtain ⟨fQ,p1,p2,jh,ji,lq,lr,lu⟩:=eR Mx.o;clear Fm lh lD Km c6 y1 dp eb ef ej ek el dd;have po:Br k5.ab=(op1==4 && (mode1==0 && (mn1 !=aI && ((MRe.al aq).getD 0 .nil).op==1))):=by rw [uH.o];rfl
   have P0:=C po;obtain ⟨z,aW⟩:∃ z,z=Br k5.ab:=⟨_,rfl⟩;rw [←aW] at po;have EZ:=C aW;clear aW
   go_cut [48] (fun ada db=> ada=F (!z)∧fO=db)
   case first=>
    by_cases a4:op1=4
    ·subst a4
     by_cases a0:mode1=0
     ·subst a0
      by_cases Ba:mn1=aI
      ·subst Ba;obtain rfl:z=false:=by rw [po];simp
       clear po;go_wp2;go_meet;exact ⟨rfl,rfl⟩
      ·have oB:0 < aq.length:=by rw [(kB GX.o).hone (by simp)];omega
       have Tc:(0:Int) < (aq.length:Int):=by omega
       obtain ⟨b3,iV,fk,rfl,n7,w8,mI,mJ⟩:=jq.o.kids.head oB;obtain ⟨nR,rh⟩:=oJ w8;rw [rh] at po;have LG:z=(fk.ab.op==1):=by rw [po];simp [Ba]
       have KK:(mn1==aI)=false:=by simpa using Ba
       obtain ⟨op3,dk,dm,set3,di,dj,kids3,cA,cC,cB,cv,cx⟩:=fk;have dv:=(aH.o.trans k3.o).cell mI.node.ar (by simp);have CE:z=(op3==1):=LG;clear po LG rh n7 w8 mI mJ
       by_cases a1:op3=1
       ·subst a1;obtain rfl:z=true:=by rw [CE];rfl
        clear CE;go_wp2;go_meet;exact ⟨rfl,rfl⟩
       ·have re:(op3 !=1)=true:=by simpa using a1
        obtain rfl:z=false:=by rw [CE];simpa using a1
        clear CE;go_wp2;go_meet;exact ⟨rfl,rfl⟩
     ·have xI:(mode1 !=0)=true:=by simpa using a0
      obtain rfl:z=false:=by rw [po];simp [a0]
      clear po;go_wp2;go_meet;exact ⟨rfl,rfl⟩
    ·have yE:(op1 !=4)=true:=by simpa using a4
     obtain rfl:z=false:=by rw [po];simp [a4]
     clear po;go_wp2;go_meet;exact ⟨rfl,rfl⟩
   case rest=>
    obtain ⟨rfl,rfl⟩:=hcut;clear po
    cases z with
    | false=>
     have eE:=HW gi.o rfl (by rw [←EZ.o];rfl) jG.o;have fq:=C eE;clear eE;go_wp2;go_roundw
     case rel=> exact ⟨k + 1,by omega,by go_num,fq.o,k3.o⟩
     case measure=> simp [intOf];omega
    | true=>
     have hh:op1=4∧mode1=0∧mn1≠aI∧((MRe.al aq).getD 0 .nil).op=1:=by
      have:=P0.o
      rw [←EZ.o] at this
      simpa using this.symm
     obtain ⟨rfl,rfl,Ba,a1⟩:=hh;have oB:0 < aq.length:=by rw [(kB GX.o).hone (by simp)];omega
     have Tc:(0:Int) < (aq.length:Int):=by omega
     obtain ⟨b3,iV,fk,rfl,n7,w8,mI,mJ⟩:=jq.o.kids.head oB;obtain ⟨nR,rh⟩:=oJ w8;have Zy:k5.ab.kids.getD 0 .nil=fk.ab:=by
      rw [uH.o]
      show ((MRe.al aq).getD 0 .nil)=_
      rw [rh];rfl
     have N2:=mS GX.o n7;have Zx:=(lG PO.o).2.2 _ n7;have HV:fk.ab.op=1:=by rw [rh] at a1;exact a1
     have Zz:r5 fk.ab.op fk.ab.set fk.ab.kids.length fk.ab.mn fk.ab.mx fk.ab.mode fk.ab.n fk.ab.neg:=by
      cases hq:fk.ab with
      | node o s k a b c d e=> rw [hq] at N2;exact N2.node
     have vT:Ho fk.ab (MRe.ab (.node 2 none 0 [] oR oS (kids.drop (k + 1)) 0 0 0 0 false))=!q8 fk.ab.set ((MRe.al kids).drop (k + 1)):=by
      rw [ahR HV (Zz.tx HV).1 qm.o,mq.o];rfl
     have I1:=fun (W:World) (h:I [] w W)=> amI fk (.node 2 none 0 [] oR oS (kids.drop (k + 1)) 0 0 0 0 false) W (mJ.ah h) (BW.o.ah h) N2.ae qm.o Zx Da.o;obtain ⟨q1,p3⟩:∃ ae,ae=qP ((MRe.al kids).drop (k + 1)):=⟨_,rfl⟩;obtain ⟨q2,rf⟩:∃ ae,ae=q8 fk.ab.set ((MRe.al kids).drop (k + 1)):=⟨_,rfl⟩;rw [←rf] at vT;simp only [vT] at I1;simp only [←p3] at dP;have HH:(Br k5.ab && (!qP ((MRe.al kids).drop (k + 1)) && !q8 (k5.ab.kids.getD 0 .nil).set ((MRe.al kids).drop (k + 1))))=(!q1 && !q2):=by rw [←EZ.o,Zy,←p3,←rf];rfl
     have zp:=C HH;obtain ⟨op3,dk,dm,set3,di,dj,kids3,cA,cC,cB,cv,cx⟩:=fk;simp only [MRe.val,List.length_drop,List.length_nil] at I1;have g:=mI.node;obtain ⟨bg,aV,a6,bl,bq,bE,bF,bH⟩:=id g;have bK:=(aH.o.trans k3.o).c bg;have d1:=(aH.o.trans k3.o).c aV;have d2:=(aH.o.trans k3.o).c a6;have bL:=(aH.o.trans k3.o).c bl;have bO:=(aH.o.trans k3.o).c bq;have bT:=(aH.o.trans k3.o).c bE;have bU:=(aH.o.trans k3.o).c bF;have bV:=(aH.o.trans k3.o).c bH;have dP:=C dP;have I1:=C I1;obtain ⟨gV,ju,iz,nR,jj,ir,vj,vk⟩:=eR aeI.o;clear g bg aV a6 bl bq bE bF bH n7 w8 mI mJ rh Zy N2 Zx HV Zz vT p3 rf HH a1;go_upto_region 7 with fail
     refine rg (S:=fun w'=> (w'.cell? ⟨iv,0,none⟩=some (H J 2)∧w'.cell? ⟨iv,1,none⟩=some (M none 0 0)∧w'.cell? ⟨iv,2,none⟩=some (M oR (kids.length - (k + 1)) oS)∧w'.cell? ⟨iv,3,none⟩=some (H J 0)∧w'.cell? ⟨iv,4,none⟩=some (H J 0)∧w'.cell? ⟨iv,5,none⟩=some (H J 0)∧w'.cell? ⟨iv,6,none⟩=some (H J 0)∧w'.cell? ⟨iv,7,none⟩=some (F false))∧w'.cell? ⟨dJ,2,none⟩=some (M (some ⟨b3,iV,none⟩) aq.length kc1)∧(w'.cell? ⟨b3,iV,none⟩=some (H J op3)∧w'.cell? ⟨b3,iV + 1,none⟩=some (M dk set3.length dm)∧w'.cell? ⟨b3,iV + 2,none⟩=some (M di kids3.length dj)∧w'.cell? ⟨b3,iV + 3,none⟩=some (H J cA)∧w'.cell? ⟨b3,iV + 4,none⟩=some (H J cC)∧w'.cell? ⟨b3,iV + 5,none⟩=some (H J cB)∧w'.cell? ⟨b3,iV + 6,none⟩=some (H J cv)∧w'.cell? ⟨b3,iV + 7,none⟩=some (F cx))) (fun _ k=> ⟨(k.au gV ju iz nR jj ir vj vk),k.c p2,(k.au bK d1 d2 bL bO bT bU bV)⟩) fun bM aF=> ?_;refine ag 0 ?_;refine bh 1 fun ai af=> ?_;go_simp
     go_at_call 52
     refine Calls.mono (dP.o _ ((aH.o.trans k3.o).drew)) ?_;rintro e w3 ⟨rfl,aP⟩;have aR:=C (((I.refl [] fO).drew).trans aP);clear aP;refine af.out _ _ (bM.o _ aR.o) fun aF=> ?_;clear af ai;try go_frame
     refine ag 2 ?_;refine ag 3 ?_
     cases q1 with
     | true=>
      refine c9 4 ?_;refine c9 5 ?_;refine c9 6 ?_;refine c9 7 ?_;refine c9 8 ?_;refine RC (i:=9) rfl (by kernel_rfl) (by rfl) (by assumption) ?_;try go_frame
      refine ag 10 ?_;refine dR ?_;have eE:=HW gi.o rfl (by rw [zp.o];rfl) jG.o;have fq:=C eE;have kl:=C (k3.o.trans aR.o);clear eE gV ju iz nR jj ir vj vk bK d1 d2 bL bO bT bU bV fQ p1 p2 jh ji lq lr lu c0 cT s2 lR kM kh k7 lJ aF;go_wp2;go_roundw
      case rel=> exact ⟨k + 1,by omega,by go_num,fq.o,kl.o⟩
      case measure=> simp [intOf];omega
     | false=>
      refine ag 4 ?_;refine ag 5 ?_;refine ag 6 ?_;refine ag 7 ?_;refine ag 8 ?_;refine bh 9 fun ai af=> ?_;go_simp
      go_at_call 97
      refine Calls.mono (I1.o _ ((aH.o.trans k3.o).trans aR.o)) ?_;rintro e w4 ⟨rfl,bc⟩;have cl:=C (aR.o.trans bc);clear bc;refine af.out _ _ (bM.o _ cl.o) fun aF=> ?_;clear af ai;try go_frame
      refine ag 10 ?_;refine dR ?_;have kl:=C (k3.o.trans cl.o);obtain ⟨t0,t1,fu,t3,t4,t5,jm,jn⟩:=cl.o.au c0 cT s2 lR kM kh k7 lJ;have BF:=C (cl.o.h Mx.o);clear gV ju iz nR jj ir vj vk bK d1 d2 bL bO bT bU bV fQ p1 p2 jh ji lq lr lu c0 cT s2 lR kM kh k7 lJ aF
      cases q2 with
      | true=>
       have eE:=HW gi.o rfl (by rw [zp.o];rfl) jG.o;have fq:=C eE;clear eE t0 t1 fu t3 t4 t5 jm jn;go_wp2;go_roundw
       case rel=> exact ⟨k + 1,by omega,by go_num,fq.o,kl.o⟩
       case measure=> simp [intOf];omega
      | false=>
       have oA:=aap gi.o (by rw [zp.o];rfl) jG.o;have aD:=C (show R=some (hF 2 (MRe.al kids) k (k + 1) [tY k5.ab]) by rw [dW.o,oA,Option.map_some,Jd.o]);obtain ⟨fQ,p1,p2,jh,ji,lq,lr,lu⟩:=eR BF.o;have wj:=h6 BF.o;clear oA;go_upto_region 9 with fail
       obtain ⟨ak,cY⟩:∃ ak,ak=w4.setCell ⟨dJ,5,none⟩ (H J 2):=⟨_,rfl⟩;have dh:I [dJ] w4 ak:=by rw [cY];exact (I.refl [dJ] w4).setCell (p:=⟨dJ,5,none⟩) (.inl (by simp)) _
       have zS:ak.heap[dJ]? =some (bf 4 aM set1 aN (some ⟨b3,iV,none⟩) aq kc1 mn1 aI 2 n1 aL):=by rw [cY];exact heap_setCell_same _ dJ 5 _ _ _ BF.o
       rw [←cY];obtain ⟨a0,a1,a2,a3,a4,a5,dM,dO⟩:=eR zS;have Hy:=GV.o;have ar:=dh.cell t0 (by simp;omega);have c1:=dh.cell t1 (by simp;omega);have c2:=dh.cell fu (by simp;omega);have an:=dh.cell t3 (by simp;omega);have av:=dh.cell t4 (by simp;omega);have ay:=dh.cell t5 (by simp;omega);have ax:=dh.cell jm (by simp;omega);have az:=dh.cell jn (by simp;omega);have Ky:I [] aE ak:=(kl.o).cn dh (by intro x hx;simp at hx;subst hx;exact .inr QP.o);have dG:=C Ky;have iH:=I.a1 ak (bf 4 aM set1 aN (some ⟨b3,iV,none⟩) aq kc1 mn1 aI 2 n1 aL);have eS:=C iH;have lP:gT (ak.alloc (bf 4 aM set1 aN (some ⟨b3,iV,none⟩) aq kc1 mn1 aI 2 n1 aL)) (some ⟨ak.heap.size,0,none⟩) 1 [(.node 4 aM aN set1 (some ⟨b3,iV,none⟩) kc1 aq mn1 aI 2 n1 aL)]:=by
        refine ⟨hH.kq (kids:=[(.node 4 aM aN set1 (some ⟨b3,iV,none⟩) kc1 aq mn1 aI 2 n1 aL)]) (heap_alloc_new ak _) rfl (by simp [maxLen]),fun x hx=> ?_⟩;simp only [List.mem_cons,List.not_mem_nil,or_false] at hx;subst hx;exact .hR (jq.o.nV.ah ((aH.o.trans dG.o).trans iH)) (jq.o.kids.ah ((aH.o.trans dG.o).trans iH))
       have hs:=eX.o _ ((aH.o.trans dG.o).trans iH) k (some ⟨ak.heap.size,0,none⟩) (.node 4 aM aN set1 (some ⟨b3,iV,none⟩) kc1 aq mn1 aI 2 n1 aL) lP (by omega) (by show k + 1≤kids.length;omega) (by show 0 < kids.length;omega) (by show kids.length + 1≤1000000;omega);rw [show ((k + 1:Nat):Int)=(k:Int) + 1 by omega,List.length_singleton] at hs;have cW:=C hs;clear hs lP iH Ky cY dh zS t0 t1 fu t3 t4 t5 jm jn fQ p1 p2 jh ji lq lr lu wj Hy;go_wp2_with fail
       refine Calls.mono cW.o ?_;rintro e fN ⟨ae,rfl,a7,aT,cU,hqf⟩;have gu:=C (dG.o.trans (eS.o.trans cU));have dK:=C a7;have dA:=C aT;have et:=C hqf;obtain ⟨q0,bN⟩:∃ q0,q0=ae:=⟨_,rfl⟩;rw [←bN] at dK dA et;have dt:=C bN;clear a7 aT cU hqf bN a0 a1 a2 a3 a4 a5 dM dO ar c1 c2 an av ay ax az;obtain ⟨bA,bB,bC,bD,bs,bt,bu,bo,bx,bw,bp,bz⟩:=ae;simp only [MRe.val];obtain ⟨z0,z1,z2,z3,z4,z5,b9,cc,cj⟩:=ew (gu.o.h ba.o);go_wp2;have hfr:du (U + 2) (MRe.node 2 sa sc set (some ⟨b,off,none⟩) kc kids mn mx mode n neg).aw (.node bA bB bC bD bs bt bu bo bx bw bp bz:MRe).aw:=by
        rw [←dt.o];exact vp et.o (fun x h=> .inl (kS.o x (by simp only [MRe.dN,List.append_nil] at h;exact h))) (Nat.le_trans hC.o (dG.o.trans eS.o).size)
       obtain ⟨aY,cm,fy,gB⟩:=nd aB.o aH.o gu.o ba.o (by rw [←dt.o];exact dA.o) hfr eU.o;refine rt aY ?_;exact dc.iI (.node bA bB bC bD bs bt bu bo bx bw bp bz) (by rw [aD.o,←dt.o,dK.o,ql.o,uH.o];rfl) rfl cm fy gB
  ·have ZT:¬ (k:Int) + 1 < (kids.length:Int):=by omega
   have h0:oZ (MRe.al kids)=none:=by rw [←jG.o,aks (by rw [List.length_drop,MRe.ee];omega)];rfl
   have aD:=C (show R=none by rw [dW.o,h0];rfl);clear h0;obtain ⟨z0,z1,z2,z3,z4,z5,b9,cc,cj,cw,bQ⟩:=gR aB.o aH.o cX.o ba.o;go_wp2;refine rt cw.o ?_;exact dc.dL aD.o rfl bQ.o
end Go.Proofs.YtjnlkjlbejelgaaGreat
