/- Part of the proof. No condition: every lemma says its own. -/
import Derived.Test.YtjnlkjlbejelgaaGreatRSPav
namespace Go.Proofs.YtjnlkjlbejelgaaGreat
open Go.RowKit Go.Sort Go.BigFrame
open Go.Value renaming int→H,slice→M,bool→F
open Go.IntKind renaming i64→J
open Go.RowKit
set_option maxRecDepth 100000
set_option maxHeartbeats 16000000
theorem ams (m1 m2:MRe) (w:World) (aj:m1.aK w) (cV:m2.aK w) (cP:m2.ab.dE):
  Calls Tryz.prog 129 #[m1.val,m2.val] w fun e w'=> e=.returned (F (y9 m1.ab m2.ab))∧I [] w w':=by
 have cW:=fun W=> Mf m2 W;have h4:=fun h=> Pp (t:=m2.ab) h;unfold y9;obtain ⟨s,hs⟩:∃ s,s=oI m2.ab:=⟨_,rfl⟩;simp only [←hs] at cW h4 ⊢;clear hs
 cases s with
 | false=>
  simp only [Bool.false_and];obtain ⟨op1,aM,aN,set1,aS,kc1,aq,mn1,aI,mode1,n1,aL⟩:=m1;obtain ⟨op2,cg,cf,bj,ct,kc2,a8,mn2,bY,bX,bn,bZ⟩:=m2;simp only [MRe.val] at cW ⊢;clear h4 aj cV cP;obtain ⟨U,aA,ar,c1,c2,an,av,ay,ax,az,bK,d1,d2,bL,bO,bT,bU,bV,dw,aB,aZ⟩:=nc w op1 aM aN set1 aS kc1 aq mn1 aI mode1 n1 aL op2 cg cf bj ct kc2 a8 mn2 bY bX bn bZ;have nG:∀ d os,Calls Tryz.prog 125 #[.agg #[H J op2,M cg bj.length cf,M ct a8.length kc2,H J mn2,H J bY,H J bX,H J bn,F bZ]] (grow (redrawn aA d) os) fun e jw=> e=.returned (F false)∧∃ p:Regrown,jw=grow (redrawn aA p.d) p.os:=fun d os=> Calls.regrown_of ((cW _).mono fun e w' ⟨he,hk⟩=> ⟨he,hk.below (Nat.le_refl _)⟩);have oL:=C nG;have u0:=cell_regrown ar;have u1:=cell_regrown c1;have u2:=cell_regrown c2;have u3:=cell_regrown an;have u4:=cell_regrown av;have u5:=cell_regrown ay;have u6:=cell_regrown ax;have u7:=cell_regrown az;have v0:=cell_regrown bK;have v1:=cell_regrown d1;have v2:=cell_regrown d2;have v3:=cell_regrown bL;have v4:=cell_regrown bO;have v5:=cell_regrown bT;have v6:=cell_regrown bU;have v7:=cell_regrown bV;clear nG cW ar c1 c2 an av ay ax az bK d1 d2 bL bO bT bU bV;go_enter Tryz.func129,Tryz.ntmps129
  go_upto_region 1 with fail
  rw [←dw.o,←aB.o];refine wp_region_quiet_below (by kernel_rfl) (by kernel_rfl) ?_
  repeat (go_big_quiet_step (exact oL.o _ _))
  refine wpQuiet_nil ?_;intro _ i7;obtain ⟨dY,jK⟩:=i7;subst jK;have hk:=I.kY (below_regrown aA dY.d dY.os);have b6:=C (aZ.o.trans hk);clear hk u0 u1 u2 u3 u4 u5 u6 u7 v0 v1 v2 v3 v4 v5 v6 v7
  generalize grow (redrawn aA dY.d) dY.os=fO at *
  go_wp2;go_ret;exact ⟨rfl,b6.o⟩
 | true=>
  simp only [Bool.true_and];replace h4:=h4 rfl;obtain ⟨bW,cQ⟩:∃ bW,bW=m2:=⟨_,rfl⟩;rw [←cQ] at cV cP h4 ⊢;have hA:=cQ;obtain ⟨op2,cg,cf,bj,ct,kc2,a8,mn2,bY,bX,bn,bZ⟩:=m2;obtain ⟨b3,iV,fk,Af,n7,mI,mJ,il,l7,hln⟩:=Gy cV cP h4 hA;have gw:=fun (W:World) (h:I [] w W)=> Hx m1 fk W (aj.ah h) (mJ.ah h);rw [il];obtain ⟨ae,hq⟩:∃ ae,ae=iQ m1.ab fk.ab:=⟨_,rfl⟩;simp only [←hq] at gw ⊢;obtain ⟨op1,aM,aN,set1,aS,kc1,aq,mn1,aI,mode1,n1,aL⟩:=m1;obtain ⟨op3,dk,dm,set3,di,dj,kids3,cA,cC,cB,cv,cx⟩:=fk;have g:=mI.node;obtain ⟨bg,aV,a6,bl,bq,bE,bF,bH⟩:=id g;rw [cQ];simp only [MRe.val] at cW gw ⊢;obtain ⟨U,aA,ar,c1,c2,an,av,ay,ax,az,bK,d1,d2,bL,bO,bT,bU,bV,dw,aB,aZ⟩:=nc w op1 aM aN set1 aS kc1 aq mn1 aI mode1 n1 aL op2 cg cf bj ct kc2 a8 mn2 bY bX bn bZ;obtain ⟨dv,dI,ea,fo,gO,ha,hb,hd⟩:=aZ.o.au bg aV a6 bl bq bE bF bH;have nG:∀ d os,Calls Tryz.prog 125 #[.agg #[H J op2,M cg bj.length cf,M ct a8.length kc2,H J mn2,H J bY,H J bX,H J bn,F bZ]] (grow (redrawn aA d) os) fun e jw=> e=.returned (F true)∧∃ p:Regrown,jw=grow (redrawn aA p.d) p.os:=fun d os=> Calls.regrown_of ((cW _).mono fun e w' ⟨he,hk⟩=> ⟨he,hk.below (Nat.le_refl _)⟩);have oL:=C nG;have qx:∀ d os,Calls Tryz.prog 117 #[.agg #[H J op1,M aM set1.length aN,M aS aq.length kc1,H J mn1,H J aI,H J mode1,H J n1,F aL],.agg #[H J op3,M dk set3.length dm,M di kids3.length dj,H J cA,H J cC,H J cB,H J cv,F cx]] (grow (redrawn aA d) os) fun e jw=> e=.returned (F ae)∧∃ p:Regrown,jw=grow (redrawn aA p.d) p.os:=fun d os=> Calls.regrown_of ((gw _ (aZ.o.trans (I.kY (below_regrown aA d os)))).mono fun e w' ⟨he,hk⟩=> ⟨he,hk.below (Nat.le_refl _)⟩);have rp:=C qx;have u0:=cell_regrown ar;have u1:=cell_regrown c1;have u2:=cell_regrown c2;have u3:=cell_regrown an;have u4:=cell_regrown av;have u5:=cell_regrown ay;have u6:=cell_regrown ax;have u7:=cell_regrown az;have v0:=cell_regrown bK;have v1:=cell_regrown d1;have v2:=cell_regrown d2;have v3:=cell_regrown bL;have v4:=cell_regrown bO;have v5:=cell_regrown bT;have v6:=cell_regrown bU;have v7:=cell_regrown bV;have c6:=cell_regrown dv;have y1:=cell_regrown dI;have dp:=cell_regrown ea;have eb:=cell_regrown fo;have ef:=cell_regrown gO;have ej:=cell_regrown ha;have ek:=cell_regrown hb;have el:=cell_regrown hd;subst Af;clear nG cW qx gw ar c1 c2 an av ay ax az bK d1 d2 bL bO bT bU bV dv dI ea fo gO ha hb hd g bg aV a6 bl bq bE bF bH h4 aj cV cP hA cQ n7 mI mJ il hq;go_enter Tryz.func129,Tryz.ntmps129
  go_upto_region 1 with fail
  rw [←dw.o,←aB.o];refine wp_region_quiet_below (by kernel_rfl) (by kernel_rfl) ?_
  repeat (go_big_quiet_step (first | exact oL.o _ _ | exact rp.o _ _))
  refine wpQuiet_nil ?_;intro _ i7;obtain ⟨dY,jK⟩:=i7;subst jK;have hk:=I.kY (below_regrown aA dY.d dY.os);have b6:=C (aZ.o.trans hk);clear hk u0 u1 u2 u3 u4 u5 u6 u7 v0 v1 v2 v3 v4 v5 v6 v7 c6 y1 dp eb ef ej ek el
  generalize grow (redrawn aA dY.d) dY.os=fO at *
  go_wp2;go_ret;exact ⟨rfl,b6.o⟩
theorem alA (m1 m2:MRe) (w:World) (aj:m1.aK w) (cV:m2.aK w) (aJ:m1.ab.dE) (cP:m2.ab.dE):
  Calls Tryz.prog 128 #[m1.val,m2.val] w fun e w'=> e=.returned (F (x2 m1.ab m2.ab))∧I [] w w':=by
 have fe:=fun W=> NA m1 0 1 W;have cW:=fun W=> Mf m2 W;have h4:=fun h=> Pp (t:=m2.ab) h;have Dz:=fun h=> X1 (op:=m1.ab.op) (mn:=m1.ab.mn) (mx:=m1.ab.mx) (mode:=m1.ab.mode) (a:=0) (b:=1) h;unfold x2;obtain ⟨r,aO⟩:∃ r,r=sg m1.ab.op m1.ab.mn m1.ab.mx m1.ab.mode 0 1:=⟨_,rfl⟩;obtain ⟨s,hs⟩:∃ s,s=oI m2.ab:=⟨_,rfl⟩;simp only [←aO] at fe Dz ⊢;simp only [←hs] at cW h4 ⊢;clear hs aO
 cases r with
 | false=>
  simp only [Bool.false_and];obtain ⟨op1,aM,aN,set1,aS,kc1,aq,mn1,aI,mode1,n1,aL⟩:=m1;obtain ⟨op2,cg,cf,bj,ct,kc2,a8,mn2,bY,bX,bn,bZ⟩:=m2;simp only [MRe.val] at fe ⊢;clear h4 Dz aj cV aJ cP;obtain ⟨U,aA,ar,c1,c2,an,av,ay,ax,az,bK,d1,d2,bL,bO,bT,bU,bV,dw,aB,aZ⟩:=nc w op1 aM aN set1 aS kc1 aq mn1 aI mode1 n1 aL op2 cg cf bj ct kc2 a8 mn2 bY bX bn bZ;have nG:∀ d os,Calls Tryz.prog 126 #[.agg #[H J op1,M aM set1.length aN,M aS aq.length kc1,H J mn1,H J aI,H J mode1,H J n1,F aL],H J 0,H J 1] (grow (redrawn aA d) os) fun e jw=> e=.returned (F false)∧∃ p:Regrown,jw=grow (redrawn aA p.d) p.os:=fun d os=> Calls.regrown_of ((fe _).mono fun e w' ⟨he,hk⟩=> ⟨he,hk.below (Nat.le_refl _)⟩);have oL:=C nG;have u0:=cell_regrown ar;have u1:=cell_regrown c1;have u2:=cell_regrown c2;have u3:=cell_regrown an;have u4:=cell_regrown av;have u5:=cell_regrown ay;have u6:=cell_regrown ax;have u7:=cell_regrown az;have v0:=cell_regrown bK;have v1:=cell_regrown d1;have v2:=cell_regrown d2;have v3:=cell_regrown bL;have v4:=cell_regrown bO;have v5:=cell_regrown bT;have v6:=cell_regrown bU;have v7:=cell_regrown bV;clear nG cW fe ar c1 c2 an av ay ax az bK d1 d2 bL bO bT bU bV;go_enter Tryz.func128,Tryz.ntmps128
  go_upto_region 1 with fail
  rw [←dw.o,←aB.o];refine wp_region_quiet_below (by kernel_rfl) (by kernel_rfl) ?_
  repeat (go_big_quiet_step (exact oL.o _ _))
  refine wpQuiet_nil ?_;intro _ i7;obtain ⟨dY,jK⟩:=i7;subst jK;have hk:=I.kY (below_regrown aA dY.d dY.os);have b6:=C (aZ.o.trans hk);clear hk u0 u1 u2 u3 u4 u5 u6 u7 v0 v1 v2 v3 v4 v5 v6 v7
  generalize grow (redrawn aA dY.d) dY.os=fO at *
  go_wp2;go_ret;exact ⟨rfl,b6.o⟩
 | true=>
  simp only [Bool.true_and];replace Dz:=Dz rfl
  cases s with
  | false=>
   simp only [Bool.false_and];obtain ⟨op1,aM,aN,set1,aS,kc1,aq,mn1,aI,mode1,n1,aL⟩:=m1;obtain ⟨op2,cg,cf,bj,ct,kc2,a8,mn2,bY,bX,bn,bZ⟩:=m2;simp only [MRe.val] at fe cW ⊢;clear h4 Dz aj cV aJ cP;obtain ⟨U,aA,ar,c1,c2,an,av,ay,ax,az,bK,d1,d2,bL,bO,bT,bU,bV,dw,aB,aZ⟩:=nc w op1 aM aN set1 aS kc1 aq mn1 aI mode1 n1 aL op2 cg cf bj ct kc2 a8 mn2 bY bX bn bZ;have J3:∀ d os,Calls Tryz.prog 126 #[.agg #[H J op1,M aM set1.length aN,M aS aq.length kc1,H J mn1,H J aI,H J mode1,H J n1,F aL],H J 0,H J 1] (grow (redrawn aA d) os) fun e jw=> e=.returned (F true)∧∃ p:Regrown,jw=grow (redrawn aA p.d) p.os:=fun d os=> Calls.regrown_of ((fe _).mono fun e w' ⟨he,hk⟩=> ⟨he,hk.below (Nat.le_refl _)⟩);have Ms:=C J3;have nG:∀ d os,Calls Tryz.prog 125 #[.agg #[H J op2,M cg bj.length cf,M ct a8.length kc2,H J mn2,H J bY,H J bX,H J bn,F bZ]] (grow (redrawn aA d) os) fun e jw=> e=.returned (F false)∧∃ p:Regrown,jw=grow (redrawn aA p.d) p.os:=fun d os=> Calls.regrown_of ((cW _).mono fun e w' ⟨he,hk⟩=> ⟨he,hk.below (Nat.le_refl _)⟩);have oL:=C nG;have u0:=cell_regrown ar;have u1:=cell_regrown c1;have u2:=cell_regrown c2;have u3:=cell_regrown an;have u4:=cell_regrown av;have u5:=cell_regrown ay;have u6:=cell_regrown ax;have u7:=cell_regrown az;have v0:=cell_regrown bK;have v1:=cell_regrown d1;have v2:=cell_regrown d2;have v3:=cell_regrown bL;have v4:=cell_regrown bO;have v5:=cell_regrown bT;have v6:=cell_regrown bU;have v7:=cell_regrown bV;clear nG J3 cW fe ar c1 c2 an av ay ax az bK d1 d2 bL bO bT bU bV;go_enter Tryz.func128,Tryz.ntmps128
   go_upto_region 1 with fail
   rw [←dw.o,←aB.o];refine wp_region_quiet_below (by kernel_rfl) (by kernel_rfl) ?_
   repeat (go_big_quiet_step (first | exact Ms.o _ _ | exact oL.o _ _))
   refine wpQuiet_nil ?_;intro _ i7;obtain ⟨dY,jK⟩:=i7;subst jK;have hk:=I.kY (below_regrown aA dY.d dY.os);have b6:=C (aZ.o.trans hk);clear hk u0 u1 u2 u3 u4 u5 u6 u7 v0 v1 v2 v3 v4 v5 v6 v7
   generalize grow (redrawn aA dY.d) dY.os=fO at *
   go_wp2;go_ret;exact ⟨rfl,b6.o⟩
  | true=>
   simp only [Bool.true_and];replace h4:=h4 rfl;obtain ⟨OO,N6⟩:∃ OO,OO=m1:=⟨_,rfl⟩;rw [←N6] at aj aJ Dz ⊢;have ZX:=N6;obtain ⟨bW,cQ⟩:∃ bW,bW=m2:=⟨_,rfl⟩;rw [←cQ] at cV cP h4 ⊢;have hA:=cQ;obtain ⟨op1,aM,aN,set1,aS,kc1,aq,mn1,aI,mode1,n1,aL⟩:=m1;obtain ⟨op2,cg,cf,bj,ct,kc2,a8,mn2,bY,bX,bn,bZ⟩:=m2;obtain ⟨b3,iV,fk,Af,n7,mI,mJ,il,l7,hln⟩:=Gy cV cP h4 hA;obtain ⟨dS,ari,s5,aj7,aj5,ZA,S8,Zi,ZR,HQ⟩:=Gy aj aJ Dz ZX;have gw:=fun (W:World) (h:I [] w W)=> Hx s5 fk W (S8.ah h) (mJ.ah h);have dP:=fun (W:World) (h:I [] w W)=> Ej s5 W (S8.ah h);rw [il,Zi];obtain ⟨ae,hq⟩:∃ ae,ae=iQ s5.ab fk.ab:=⟨_,rfl⟩;obtain ⟨z,aW⟩:∃ z,z=fA s5.ab:=⟨_,rfl⟩;simp only [←hq] at gw ⊢;simp only [←aW] at dP ⊢;obtain ⟨op3,dk,dm,set3,di,dj,kids3,cA,cC,cB,cv,cx⟩:=fk;obtain ⟨cK,cL,cM,cN,cD,cE,cF,cG,cI,cH,cu,cJ⟩:=s5;have g:=mI.node;obtain ⟨bg,aV,a6,bl,bq,bE,bF,bH⟩:=id g;clear g;have g:=ZA.node;obtain ⟨ep,aJ,cP,eM,eF,eN,eO,eP⟩:=id g;rw [cQ,N6];simp only [MRe.val] at fe cW gw dP ⊢;obtain ⟨U,aA,ar,c1,c2,an,av,ay,ax,az,bK,d1,d2,bL,bO,bT,bU,bV,dw,aB,aZ⟩:=nc w op1 aM aN set1 aS kc1 aq mn1 aI mode1 n1 aL op2 cg cf bj ct kc2 a8 mn2 bY bX bn bZ;obtain ⟨dv,dI,ea,fo,gO,ha,hb,hd⟩:=aZ.o.au bg aV a6 bl bq bE bF bH;obtain ⟨c0,cT,s2,lR,kM,kh,k7,lJ⟩:=aZ.o.au ep aJ cP eM eF eN eO eP;have J3:∀ d os,Calls Tryz.prog 126 #[.agg #[H J op1,M aM set1.length aN,M aS aq.length kc1,H J mn1,H J aI,H J mode1,H J n1,F aL],H J 0,H J 1] (grow (redrawn aA d) os) fun e jw=> e=.returned (F true)∧∃ p:Regrown,jw=grow (redrawn aA p.d) p.os:=fun d os=> Calls.regrown_of ((fe _).mono fun e w' ⟨he,hk⟩=> ⟨he,hk.below (Nat.le_refl _)⟩);have Ms:=C J3;have nG:∀ d os,Calls Tryz.prog 125 #[.agg #[H J op2,M cg bj.length cf,M ct a8.length kc2,H J mn2,H J bY,H J bX,H J bn,F bZ]] (grow (redrawn aA d) os) fun e jw=> e=.returned (F true)∧∃ p:Regrown,jw=grow (redrawn aA p.d) p.os:=fun d os=> Calls.regrown_of ((cW _).mono fun e w' ⟨he,hk⟩=> ⟨he,hk.below (Nat.le_refl _)⟩);have oL:=C nG;have qx:∀ d os,Calls Tryz.prog 117 #[.agg #[H J cK,M cL cN.length cM,M cD cF.length cE,H J cG,H J cI,H J cH,H J cu,F cJ],.agg #[H J op3,M dk set3.length dm,M di kids3.length dj,H J cA,H J cC,H J cB,H J cv,F cx]] (grow (redrawn aA d) os) fun e jw=> e=.returned (F ae)∧∃ p:Regrown,jw=grow (redrawn aA p.d) p.os:=fun d os=> Calls.regrown_of ((gw _ (aZ.o.trans (I.kY (below_regrown aA d os)))).mono fun e w' ⟨he,hk⟩=> ⟨he,hk.below (Nat.le_refl _)⟩);have rp:=C qx;have Ca:∀ d os,Calls Tryz.prog 35 #[.agg #[H J cK,M cL cN.length cM,M cD cF.length cE,H J cG,H J cI,H J cH,H J cu,F cJ]] (grow (redrawn aA d) os) fun e jw=> e=.returned (F z)∧∃ p:Regrown,jw=grow (redrawn aA p.d) p.os:=fun d os=> Calls.regrown_of ((dP _ (aZ.o.trans (I.kY (below_regrown aA d os)))).mono fun e w' ⟨he,hk⟩=> ⟨he,hk.below (Nat.le_refl _)⟩)
   have Ey:=C Ca;have u0:=cell_regrown ar;have u1:=cell_regrown c1;have u2:=cell_regrown c2;have u3:=cell_regrown an;have u4:=cell_regrown av;have u5:=cell_regrown ay;have u6:=cell_regrown ax;have u7:=cell_regrown az;have v0:=cell_regrown bK;have v1:=cell_regrown d1;have v2:=cell_regrown d2;have v3:=cell_regrown bL;have v4:=cell_regrown bO;have v5:=cell_regrown bT;have v6:=cell_regrown bU;have v7:=cell_regrown bV;have c6:=cell_regrown dv;have y1:=cell_regrown dI;have dp:=cell_regrown ea;have eb:=cell_regrown fo;have ef:=cell_regrown gO;have ej:=cell_regrown ha;have ek:=cell_regrown hb;have el:=cell_regrown hd;have t0:=cell_regrown c0;have t1:=cell_regrown cT;have fu:=cell_regrown s2;have t3:=cell_regrown lR;have t4:=cell_regrown kM;have t5:=cell_regrown kh;have jm:=cell_regrown k7;have jn:=cell_regrown lJ;subst Af;subst aj7;clear nG cW qx gw J3 fe Ca dP ar c1 c2 an av ay ax az bK d1 d2 bL bO bT bU bV dv dI ea fo gO ha hb hd c0 cT s2 lR kM kh k7 lJ g bg aV a6 bl bq bE bF bH ep aJ cP eM eF eN eO eP h4 Dz aj cV hA cQ N6 ZX n7 mI mJ il aj5 ZA S8 Zi hq aW
   cases ae with
   | false=>
    simp only [Bool.false_and];go_enter Tryz.func128,Tryz.ntmps128
    go_upto_region 1 with fail
    rw [←dw.o,←aB.o];refine wp_region_quiet_below (by kernel_rfl) (by kernel_rfl) ?_
    repeat (go_big_quiet_step (first | exact Ms.o _ _ | exact oL.o _ _ | exact rp.o _ _))
    refine wpQuiet_nil ?_;intro _ i7;obtain ⟨dY,jK⟩:=i7;subst jK;have hk:=I.kY (below_regrown aA dY.d dY.os);have b6:=C (aZ.o.trans hk);clear hk u0 u1 u2 u3 u4 u5 u6 u7 v0 v1 v2 v3 v4 v5 v6 v7 c6 y1 dp eb ef ej ek el t0 t1 fu t3 t4 t5 jm jn
    generalize grow (redrawn aA dY.d) dY.os=fO at *
    go_wp2;go_ret;exact ⟨rfl,b6.o⟩
   | true=>
    simp only [Bool.true_and];have aah:∀ (x:Bool) (w:World),(Op.unary .not (F x)).run Tryz.prog w=.ok (F (!x)) w:=fun _ _=> rfl;go_enter Tryz.func128,Tryz.ntmps128
    go_upto_region 1 with fail
    rw [←dw.o,←aB.o];refine wp_region_quiet_below (by kernel_rfl) (by kernel_rfl) ?_
    repeat (go_big_quiet_step (first | exact Ms.o _ _ | exact oL.o _ _ | exact rp.o _ _ | exact Ey.o _ _))
    refine wpQuiet_nil ?_;intro _ i7;obtain ⟨dY,jK⟩:=i7;subst jK;have hk:=I.kY (below_regrown aA dY.d dY.os);have b6:=C (aZ.o.trans hk);clear hk u0 u1 u2 u3 u4 u5 u6 u7 v0 v1 v2 v3 v4 v5 v6 v7 c6 y1 dp eb ef ej ek el t0 t1 fu t3 t4 t5 jm jn
    generalize grow (redrawn aA dY.d) dY.os=fO at *
    go_wp2;go_ret;exact ⟨rfl,b6.o⟩
theorem Ik {w:World} {op sa sc set ka kc kids mn mx mode n neg} (aj:MRe.aK w (.node op sa sc set ka kc kids mn mx mode n neg)) (h:2≤kids.length):
  ∃ (b off l:Nat) (k:MRe),ka=some ⟨b,off,none⟩∧kids.length=l + 1∧k∈kids∧fb w b (off + l * 8) k∧k.aK w∧s6 (MRe.ab (.node op sa sc set ka kc kids mn mx mode n neg))=k.ab∧(0:Int)≤(l:Int)∧(l:Int) < (kids.length:Int)∧l < kids.length∧IntKind.i64.wrap ((kids.length:Int) - 1)=(l:Int)∧l < kc∧kids.take l ++ [k]=kids:=by
 obtain ⟨l,hl⟩:∃ l,kids.length=l + 1:=⟨kids.length - 1,by omega⟩;obtain ⟨b,off,h1,ad,hx⟩:=aj.ch.dy (by omega);have hcap:=aj.ch.cap;have fc:=aj.ch.le;unfold maxLen at hcap;have aQ:l < kids.length:=by omega
 refine ⟨b,off,l,kids[l],h1,hl,List.getElem_mem _,hx l aQ,aj.dy (List.getElem_mem _),?_,by omega,by omega,aQ,?_,by omega,?_⟩
 ·show (MRe.al kids).getD ((MRe.al kids).length - 1) .nil=_
  rw [MRe.ee,hl,Nat.add_sub_cancel,List.getD_eq_getElem?_getD,List.getElem?_eq_getElem (by rw [MRe.ee];omega),Option.getD_some,kQ]
 ·rw [IntWalk.i64_in _ (by omega)];omega
 ·have h5:=List.take_append_getElem aQ;rw [h5,List.take_of_length_le (by omega)]
theorem aoo (m1 m2:MRe) (w:World) (aj:m1.aK w) (cV:m2.aK w) (aJ:m1.ab.dE) (cP:m2.ab.dE):
  Calls Tryz.prog 122 #[m1.val,m2.val] w fun e w'=> e=.returned (F (zi m1.ab m2.ab))∧I [] w w':=by
 obtain ⟨op1,aM,aN,set1,aS,kc1,aq,mn1,aI,mode1,n1,aL⟩:=m1;obtain ⟨op2,cg,cf,bj,ct,kc2,a8,mn2,bY,bX,bn,bZ⟩:=m2;have gm:zi (MRe.ab (.node op1 aM aN set1 aS kc1 aq mn1 aI mode1 n1 aL)) (MRe.ab (.node op2 cg cf bj ct kc2 a8 mn2 bY bX bn bZ))=(op1==2 && (op2==2 && iQ (s6 (MRe.ab (.node op1 aM aN set1 aS kc1 aq mn1 aI mode1 n1 aL))) (s6 (MRe.ab (.node op2 cg cf bj ct kc2 a8 mn2 bY bX bn bZ))))):=rfl;rw [gm];clear gm;have o5:=kB aJ;have o6:=kB cP;simp only [MRe.val]
 by_cases h1:op1=2
 ·by_cases h2:op2=2
  ·obtain ⟨b1,cR,l1,a,FE,oB,b8,wX,lj,hag,i1,i2,i3,abc,_,_⟩:=Ik aj (o5.vc (.inl h1));obtain ⟨b2,eH,l2,b,FF,m6,ad,zV,pq,zW,LL,LM,abm,abn,_,_⟩:=Ik cV (o6.vc (.inl h2));rw [hag,zW];have gw:=fun W (h:I [] w W)=> Hx a b W (lj.ah h) (pq.ah h);have da:∀ x,(op1==2 && (op2==2 && x))=x:=fun x=> by simp [h1,h2]
   rw [da];clear da;obtain ⟨ae,hq⟩:∃ ae,ae=iQ a.ab b.ab:=⟨_,rfl⟩;simp only [←hq] at gw ⊢;obtain ⟨op3,dk,dm,set3,di,dj,kids3,cA,cC,cB,cv,cx⟩:=a;obtain ⟨e7,e8,e9,fa,e0,e1,e2,e3,e5,e4,eQ,e6⟩:=b;have g:=wX.node;obtain ⟨bg,aV,a6,bl,bq,bE,bF,bH⟩:=id g;clear g;have g:=zV.node;obtain ⟨ep,aJ,cP,eM,eF,eN,eO,eP⟩:=id g;simp only [MRe.val] at gw;obtain ⟨U,aA,ar,c1,c2,an,av,ay,ax,az,bK,d1,d2,bL,bO,bT,bU,bV,dw,aB,aZ⟩:=nc w op1 aM aN set1 aS kc1 aq mn1 aI mode1 n1 aL op2 cg cf bj ct kc2 a8 mn2 bY bX bn bZ;obtain ⟨dv,dI,ea,fo,gO,ha,hb,hd⟩:=aZ.o.au bg aV a6 bl bq bE bF bH;obtain ⟨c0,cT,s2,lR,kM,kh,k7,lJ⟩:=aZ.o.au ep aJ cP eM eF eN eO eP;have qx:∀ d os,Calls Tryz.prog 117 #[.agg #[H J op3,M dk set3.length dm,M di kids3.length dj,H J cA,H J cC,H J cB,H J cv,F cx],.agg #[H J e7,M e8 fa.length e9,M e0 e2.length e1,H J e3,H J e5,H J e4,H J eQ,F e6]] (grow (redrawn aA d) os) fun e jw=> e=.returned (F ae)∧∃ p:Regrown,jw=grow (redrawn aA p.d) p.os:=fun d os=> Calls.regrown_of ((gw _ (aZ.o.trans (I.kY (below_regrown aA d os)))).mono fun e w' ⟨he,hk⟩=> ⟨he,hk.below (Nat.le_refl _)⟩);have rp:=C qx;have u0:=cell_regrown ar;have u2:=cell_regrown c2;have v0:=cell_regrown bK;have v2:=cell_regrown d2;have c6:=cell_regrown dv;have y1:=cell_regrown dI;have dp:=cell_regrown ea;have eb:=cell_regrown fo;have ef:=cell_regrown gO;have ej:=cell_regrown ha;have ek:=cell_regrown hb;have el:=cell_regrown hd;have t0:=cell_regrown c0;have t1:=cell_regrown cT;have fu:=cell_regrown s2;have t3:=cell_regrown lR;have t4:=cell_regrown kM;have t5:=cell_regrown kh;have jm:=cell_regrown k7;have jn:=cell_regrown lJ;subst FE;subst FF;subst h1;subst h2;clear qx gw ar c1 c2 an av ay ax az bK d1 d2 bL bO bT bU bV dv dI ea fo gO ha hb hd c0 cT s2 lR kM kh k7 lJ g bg aV a6 bl bq bE bF bH ep aJ cP eM eF eN eO eP aj cV o5 o6 b8 wX lj hag ad zV pq zW hq oB m6;go_enter Tryz.func122,Tryz.ntmps122
   go_upto_region 1 with fail
   rw [←dw.o,←aB.o];refine wp_region_quiet_below (by kernel_rfl) (by kernel_rfl) ?_
   repeat (go_big_quiet_step (exact rp.o _ _))
   refine wpQuiet_nil ?_;intro _ i7;obtain ⟨dY,jK⟩:=i7;subst jK;have hk:=I.kY (below_regrown aA dY.d dY.os);have b6:=C (aZ.o.trans hk);clear hk u0 u2 v0 v2 c6 y1 dp eb ef ej ek el t0 t1 fu t3 t4 t5 jm jn
   generalize grow (redrawn aA dY.d) dY.os=fO at *
   go_wp2;go_ret;exact ⟨rfl,b6.o⟩
  ·have da:(op1==2 && (op2==2 && iQ (s6 (MRe.ab (.node op1 aM aN set1 aS kc1 aq mn1 aI mode1 n1 aL))) (s6 (MRe.ab (.node op2 cg cf bj ct kc2 a8 mn2 bY bX bn bZ)))))=false:=by simp [h2]
   rw [da];have Fl:(op2==2)=false:=by simpa using h2
   clear da o5 o6 aj cV aJ cP;obtain ⟨U,aA,ar,c1,c2,an,av,ay,ax,az,bK,d1,d2,bL,bO,bT,bU,bV,dw,aB,aZ⟩:=nc w op1 aM aN set1 aS kc1 aq mn1 aI mode1 n1 aL op2 cg cf bj ct kc2 a8 mn2 bY bX bn bZ;subst h1;go_enter Tryz.func122,Tryz.ntmps122
   go_upto_region 1 with fail
   rw [←dw.o,←aB.o]
   go_quiet (fail)
   go_wp2;go_ret;exact ⟨rfl,aZ.o.drewN _⟩
 ·have da:(op1==2 && (op2==2 && iQ (s6 (MRe.ab (.node op1 aM aN set1 aS kc1 aq mn1 aI mode1 n1 aL))) (s6 (MRe.ab (.node op2 cg cf bj ct kc2 a8 mn2 bY bX bn bZ)))))=false:=by simp [h1]
  rw [da];have NB:(op1==2)=false:=by simpa using h1
  clear da o5 o6 aj cV aJ cP;obtain ⟨U,aA,ar,c1,c2,an,av,ay,ax,az,bK,d1,d2,bL,bO,bT,bU,bV,dw,aB,aZ⟩:=nc w op1 aM aN set1 aS kc1 aq mn1 aI mode1 n1 aL op2 cg cf bj ct kc2 a8 mn2 bY bX bn bZ;go_enter Tryz.func122,Tryz.ntmps122
  go_upto_region 1 with fail
  rw [←dw.o,←aB.o]
  go_quiet (fail)
  go_wp2;go_ret;exact ⟨rfl,aZ.o.drewN _⟩
theorem ai8 (m:MRe) (w:World) (aj:m.aK w) (ad:m.ab.bm≤100000):
  Calls Tryz.prog 77 #[m.val] w (dc w m.aw (xd 2 m.ab)):=by
 obtain ⟨R,aC⟩:∃ R,R=xd 2 m.ab:=⟨_,rfl⟩;have ff:=C (fun (W:World) (h:I [] w W)=> abj m 2 W (aj.ah h) ad);rw [←aC] at ff ⊢;obtain ⟨ou,kF⟩:∃ ou,ou=R:=⟨_,rfl⟩;rw [←kF];have gN:=C kF;have eU:=C aj.fi;clear aC kF;obtain ⟨op,sa,sc,set,ka,kc,kids,mn,mx,mode,n,neg⟩:=m;obtain ⟨U,aE,aB,c7,bI,ba,cZ,aH⟩:=rS w op sa sc set ka kc kids mn mx mode n neg;have hC:=C cZ;clear cZ ad aj;simp only [MRe.val];obtain ⟨ar,c1,c2,an,av,ay,ax,az⟩:=bI.o.ez;go_enter Tryz.func77,Tryz.ntmps77
 go_upto_region 1 with fail
 rw [←c7.o,←aB.o];go_wp2_with fail
 refine Calls.mono (ff.o _ aH.o) ?_;intro e w2 jX
 cases R with
 | none=>
  obtain ⟨rfl,hk2⟩:=jX;have aU:=C hk2;have aD:=C (show ou=none from gN.o);clear hk2;obtain ⟨z0,z1,z2,z3,z4,z5,b9,cc,cj,cw,bQ⟩:=gR aB.o aH.o aU.o ba.o;go_wp2;refine rt cw.o ?_;exact dc.dL aD.o rfl bQ.o
 | some t=>
  obtain ⟨ae,rfl,a7,aT,cU,hqf⟩:=jX;have gu:=C cU;have dK:=C a7;have dA:=C aT;have et:=C (vp (lo:=U + 2) (add:=[]) (by rw [List.append_nil];exact hqf) (fun _ h=> by simp at h) hC.o);obtain ⟨q0,bN⟩:∃ q0,q0=ae:=⟨_,rfl⟩;rw [←bN] at dK dA et;have dt:=C bN;clear a7 aT cU hqf bN;obtain ⟨bA,bB,bC,bD,bs,bt,bu,bo,bx,bw,bp,bz⟩:=ae;simp only [MRe.val];obtain ⟨z0,z1,z2,z3,z4,z5,b9,cc,cj⟩:=ew (gu.o.h ba.o);go_wp2;have hfr:=et.o;rw [dt.o] at hfr;obtain ⟨aY,cm,fy,gB⟩:=nd aB.o aH.o gu.o ba.o (by rw [←dt.o];exact dA.o) hfr eU.o;refine rt aY ?_;exact dc.iI (.node bA bB bC bD bs bt bu bo bx bw bp bz) (by rw [gN.o,←dt.o,dK.o]) rfl cm fy gB
theorem alD (m:MRe) (w:World) (aj:m.aK w) (ad:m.ab.bm≤100000):
  Calls Tryz.prog 78 #[m.val] w (dc w m.aw (xd 3 m.ab)):=by
 obtain ⟨R,aC⟩:∃ R,R=xd 3 m.ab:=⟨_,rfl⟩;have ff:=C (fun (W:World) (h:I [] w W)=> abj m 3 W (aj.ah h) ad);rw [←aC] at ff ⊢;obtain ⟨ou,kF⟩:∃ ou,ou=R:=⟨_,rfl⟩;rw [←kF];have gN:=C kF;have eU:=C aj.fi;clear aC kF;obtain ⟨op,sa,sc,set,ka,kc,kids,mn,mx,mode,n,neg⟩:=m;obtain ⟨U,aE,aB,c7,bI,ba,cZ,aH⟩:=rS w op sa sc set ka kc kids mn mx mode n neg;have hC:=C cZ;clear cZ ad aj;simp only [MRe.val];obtain ⟨ar,c1,c2,an,av,ay,ax,az⟩:=bI.o.ez;go_enter Tryz.func78,Tryz.ntmps78
 go_upto_region 1 with fail
 rw [←c7.o,←aB.o];go_wp2_with fail
 refine Calls.mono (ff.o _ aH.o) ?_;intro e w2 jX
 cases R with
 | none=>
  obtain ⟨rfl,hk2⟩:=jX;have aU:=C hk2;have aD:=C (show ou=none from gN.o);clear hk2;obtain ⟨z0,z1,z2,z3,z4,z5,b9,cc,cj,cw,bQ⟩:=gR aB.o aH.o aU.o ba.o;go_wp2;refine rt cw.o ?_;exact dc.dL aD.o rfl bQ.o
 | some t=>
  obtain ⟨ae,rfl,a7,aT,cU,hqf⟩:=jX;have gu:=C cU;have dK:=C a7;have dA:=C aT;have et:=C (vp (lo:=U + 2) (add:=[]) (by rw [List.append_nil];exact hqf) (fun _ h=> by simp at h) hC.o);obtain ⟨q0,bN⟩:∃ q0,q0=ae:=⟨_,rfl⟩;rw [←bN] at dK dA et;have dt:=C bN;clear a7 aT cU hqf bN;obtain ⟨bA,bB,bC,bD,bs,bt,bu,bo,bx,bw,bp,bz⟩:=ae;simp only [MRe.val];obtain ⟨z0,z1,z2,z3,z4,z5,b9,cc,cj⟩:=ew (gu.o.h ba.o);go_wp2;have hfr:=et.o;rw [dt.o] at hfr;obtain ⟨aY,cm,fy,gB⟩:=nd aB.o aH.o gu.o ba.o (by rw [←dt.o];exact dA.o) hfr eU.o;refine rt aY ?_;exact dc.iI (.node bA bB bC bD bs bt bu bo bx bw bp bz) (by rw [gN.o,←dt.o,dK.o]) rfl cm fy gB
theorem O5 (ai:Nat) (p:Tree→Tree→Bool) (o:Int) (m:MRe) (w:World) (aj:m.aK w) (aJ:m.ab.dE) (he:n2 ai)
  (ht:∀ (a b:MRe) (ak:World),a.aK ak→b.aK ak→a.ab.dE→b.ab.dE→Calls Tryz.prog ai #[a.val,b.val] ak fun e w'=> e=.returned (F (p a.ab b.ab))∧I [] ak w'):
  ∀ W,I [] w W→Calls Tryz.prog 118 #[m.val,H J o,.func (Fn.func ai) #[] #[]] W (B7 (I [] W) (fun _=> I [] W) (qa p o m.ab)):=fun W l5=>
 Uz ai #[] p o m W (I [] W) (fun _=> I [] W) he (I.refl _ _) (fun ak jB=> aj.ah (l5.trans jB)) (fun _ ak jB=> aj.ah (l5.trans jB)) (fun ak jB=> jB.drew) (fun ak o jB=> jB.alloc o)
  (adO fun a b8 b ad ak jB=> by
   cases m with
   | node op sa sc set ka kc kids mn mx mode n neg=> exact ht a b ak ((aj.ah (l5.trans jB)).dy b8) ((aj.ah (l5.trans jB)).dy ad) (mS aJ b8) (mS aJ ad))
theorem aiT:n2 127:=mf Tryz.func127 (by kernel_rfl) rfl
theorem aiQ:n2 128:=mf Tryz.func128 (by kernel_rfl) rfl
theorem aiR:n2 129:=mf Tryz.func129 (by kernel_rfl) rfl
theorem aiU:n2 122:=mf Tryz.func122 (by kernel_rfl) rfl
def uS (p:Tree→Tree→Bool) (t:Tree):Option Tree:=(qa p 2 t).map fun i=> hF t.op t.kids i (i + 1) []
theorem aoa (m:MRe) (w:World) (aj:m.aK w) (aJ:m.ab.dE) (ad:m.ab.bm≤100000):
  Calls Tryz.prog 86 #[m.val] w (dc w m.aw (uS x8 m.ab)):=by
 obtain ⟨R,aC⟩:∃ R,R=uS x8 m.ab:=⟨_,rfl⟩;rw [←aC];have eg:=C (O5 127 x8 2 m w aj aJ aiT (fun a b ak b8 ad sM sN=> an9 a b ak b8 ad sM));have eX:=C (fun (W:World) (h:I [] w W) (i:Nat)=> Pq m i W (aj.ah h));have eU:=C aj.fi;unfold uS at aC;obtain ⟨j0,hpo⟩:∃ j0,j0=qa x8 2 m.ab:=⟨_,rfl⟩;rw [←hpo] at eg aC;obtain ⟨op,sa,sc,set,ka,kc,kids,mn,mx,mode,n,neg⟩:=m;have fY:=C (lG ad).1;obtain ⟨U,aE,aB,c7,bI,ba,cZ,aH⟩:=rS w op sa sc set ka kc kids mn mx mode n neg;have hC:=C cZ;simp only [MRe.val];clear cZ ad aj aJ
 cases j0 with
 | none=>
  have aD:=C (show R=none from aC);clear aC hpo;obtain ⟨ar,c1,c2,an,av,ay,ax,az⟩:=bI.o.ez;go_enter Tryz.func86,Tryz.ntmps86
  go_upto_region 1 with fail
  rw [←c7.o,←aB.o];go_wp2_with fail
  refine Calls.mono (eg.o _ aH.o) ?_;intro e w2 jX;obtain ⟨⟨x,rfl⟩,hk2⟩:=jX;have aU:=C hk2;clear hk2;obtain ⟨z0,z1,z2,z3,z4,z5,b9,cc,cj,cw,bQ⟩:=gR aB.o aH.o aU.o ba.o;go_wp2;refine rt cw.o ?_;exact dc.dL aD.o rfl bQ.o
 | some i=>
  obtain ⟨_,aQ,_⟩:=y8 hpo.symm;have aQ:i + 1 < (MRe.al kids).length:=aQ;rw [MRe.ee] at aQ;have mq:=C (fun (q0:MRe) (h:q0.ab=hF op (MRe.al kids) i (i + 1) [])=> show R=some q0.ab by rw [aC,h];rfl);have vs:=C (show ∀ x∈([]:List Nat),x∈(.node op sa sc set ka kc kids mn mx mode n neg:MRe).aw∨U + 2≤x from fun _ h=> by simp at h);have mN:IntKind.i64.wrap ((i:Int) + 1)=(i:Int) + 1:=IntWalk.i64_in _ (by have:=fY.o;omega);clear aC hpo;obtain ⟨ar,c1,c2,an,av,ay,ax,az⟩:=bI.o.ez;go_enter Tryz.func86,Tryz.ntmps86
  go_upto_region 1 with fail
  rw [←c7.o,←aB.o];go_wp2_with fail
  refine Calls.mono (eg.o _ aH.o) ?_;intro e w2 jX;obtain ⟨rfl,hk2⟩:=jX;have oq:=C hk2;obtain ⟨u0,u1,u2,u3,u4,u5,u6,u7⟩:=oq.o.au ar c1 c2 an av ay ax az;have cW:=C (eX.o _ (aH.o.trans hk2) i (by show i < kids.length;omega) fY.o);clear hk2 ar c1 c2 an av ay ax az;go_wp2_with fail
  refine Calls.mono cW.o ?_;rintro e fN ⟨ae,rfl,a7,aT,cU,hqf⟩;have pM:=C cU;have gu:=C (oq.o.trans cU);have dK:=C a7;have dA:=C aT;have et:=C hqf;obtain ⟨q0,bN⟩:∃ q0,q0=ae:=⟨_,rfl⟩;rw [←bN] at dK dA et;have dt:=C bN;clear a7 aT cU hqf bN;obtain ⟨bA,bB,bC,bD,bs,bt,bu,bo,bx,bw,bp,bz⟩:=ae;simp only [MRe.val];obtain ⟨z0,z1,z2,z3,z4,z5,b9,cc,cj⟩:=ew (gu.o.h ba.o);clear u0 u1 u2 u3 u4 u5 u6 u7;go_wp2;have hfr:=vp et.o vs.o (Nat.le_trans hC.o oq.o.size);rw [dt.o] at hfr;obtain ⟨aY,cm,fy,gB⟩:=nd aB.o aH.o gu.o ba.o (by rw [←dt.o];exact dA.o) hfr eU.o;refine rt aY ?_;exact dc.iI (.node bA bB bC bD bs bt bu bo bx bw bp bz) (by rw [←dt.o];exact mq.o q0 dK.o) rfl cm fy gB
theorem alB (m:MRe) (w:World) (aj:m.aK w) (aJ:m.ab.dE) (ad:m.ab.bm≤100000):
  Calls Tryz.prog 87 #[m.val] w (dc w m.aw (uS x2 m.ab)):=by
 obtain ⟨R,aC⟩:∃ R,R=uS x2 m.ab:=⟨_,rfl⟩;rw [←aC];have eg:=C (O5 128 x2 2 m w aj aJ aiQ (fun a b ak b8 ad sM sN=> alA a b ak b8 ad sM sN));have eX:=C (fun (W:World) (h:I [] w W) (i:Nat)=> Pq m i W (aj.ah h));have eU:=C aj.fi;unfold uS at aC;obtain ⟨j0,hpo⟩:∃ j0,j0=qa x2 2 m.ab:=⟨_,rfl⟩;rw [←hpo] at eg aC;obtain ⟨op,sa,sc,set,ka,kc,kids,mn,mx,mode,n,neg⟩:=m;have fY:=C (lG ad).1;obtain ⟨U,aE,aB,c7,bI,ba,cZ,aH⟩:=rS w op sa sc set ka kc kids mn mx mode n neg;have hC:=C cZ;simp only [MRe.val];clear cZ ad aj aJ
 cases j0 with
 | none=>
  have aD:=C (show R=none from aC);clear aC hpo;obtain ⟨ar,c1,c2,an,av,ay,ax,az⟩:=bI.o.ez;go_enter Tryz.func87,Tryz.ntmps87
  go_upto_region 1 with fail
  rw [←c7.o,←aB.o];go_wp2_with fail
  refine Calls.mono (eg.o _ aH.o) ?_;intro e w2 jX;obtain ⟨⟨x,rfl⟩,hk2⟩:=jX;have aU:=C hk2;clear hk2;obtain ⟨z0,z1,z2,z3,z4,z5,b9,cc,cj,cw,bQ⟩:=gR aB.o aH.o aU.o ba.o;go_wp2;refine rt cw.o ?_;exact dc.dL aD.o rfl bQ.o
 | some i=>
  obtain ⟨_,aQ,_⟩:=y8 hpo.symm;have aQ:i + 1 < (MRe.al kids).length:=aQ;rw [MRe.ee] at aQ;have mq:=C (fun (q0:MRe) (h:q0.ab=hF op (MRe.al kids) i (i + 1) [])=> show R=some q0.ab by rw [aC,h];rfl);have vs:=C (show ∀ x∈([]:List Nat),x∈(.node op sa sc set ka kc kids mn mx mode n neg:MRe).aw∨U + 2≤x from fun _ h=> by simp at h);have mN:IntKind.i64.wrap ((i:Int) + 1)=(i:Int) + 1:=IntWalk.i64_in _ (by have:=fY.o;omega);clear aC hpo;obtain ⟨ar,c1,c2,an,av,ay,ax,az⟩:=bI.o.ez;go_enter Tryz.func87,Tryz.ntmps87
  go_upto_region 1 with fail
  rw [←c7.o,←aB.o];go_wp2_with fail
  refine Calls.mono (eg.o _ aH.o) ?_;intro e w2 jX;obtain ⟨rfl,hk2⟩:=jX;have oq:=C hk2;obtain ⟨u0,u1,u2,u3,u4,u5,u6,u7⟩:=oq.o.au ar c1 c2 an av ay ax az;have cW:=C (eX.o _ (aH.o.trans hk2) i (by show i < kids.length;omega) fY.o);clear hk2 ar c1 c2 an av ay ax az;go_wp2_with fail
  refine Calls.mono cW.o ?_;rintro e fN ⟨ae,rfl,a7,aT,cU,hqf⟩;have pM:=C cU;have gu:=C (oq.o.trans cU);have dK:=C a7;have dA:=C aT;have et:=C hqf;obtain ⟨q0,bN⟩:∃ q0,q0=ae:=⟨_,rfl⟩;rw [←bN] at dK dA et;have dt:=C bN;clear a7 aT cU hqf bN;obtain ⟨bA,bB,bC,bD,bs,bt,bu,bo,bx,bw,bp,bz⟩:=ae;simp only [MRe.val];obtain ⟨z0,z1,z2,z3,z4,z5,b9,cc,cj⟩:=ew (gu.o.h ba.o);clear u0 u1 u2 u3 u4 u5 u6 u7;go_wp2;have hfr:=vp et.o vs.o (Nat.le_trans hC.o oq.o.size);rw [dt.o] at hfr;obtain ⟨aY,cm,fy,gB⟩:=nd aB.o aH.o gu.o ba.o (by rw [←dt.o];exact dA.o) hfr eU.o;refine rt aY ?_;exact dc.iI (.node bA bB bC bD bs bt bu bo bx bw bp bz) (by rw [←dt.o];exact mq.o q0 dK.o) rfl cm fy gB
def By (t:Tree):Option Tree:=(qa y9 2 t).map fun i=> hF t.op t.kids i (i + 2) [.node 4 [] [t.kids.getD i .nil] 1 (-1) 0 0 false]
theorem acq {W:World} {op mn mx:Int} {T T':Nat} {s:MRe} (h1:s.aK W) (cs:Array Value) (pt:cs.toList=s.row):
  gT ((W.alloc (.cells cs T)).alloc (.cells #[H J op,M none 0 0,M (some ⟨W.heap.size,0,none⟩) 1 1,H J mn,H J mx,H J 0,H J 0,F false] T')) (some ⟨W.heap.size + 1,0,none⟩) 1 [.node op none 0 [] (some ⟨W.heap.size,0,none⟩) 1 [s] mn mx 0 0 false]:=by
 have kk:=I.a2 W (.cells cs T) (.cells #[H J op,M none 0 0,M (some ⟨W.heap.size,0,none⟩) 1 1,H J mn,H J mx,H J 0,H J 0,F false] T');refine ⟨hH.kq (kids:=[.node op none 0 [] (some ⟨W.heap.size,0,none⟩) 1 [s] mn mx 0 0 false]) (heap_alloc2_new W _ _) rfl (by simp [maxLen]),fun k hk=> ?_⟩;simp only [List.mem_cons,List.not_mem_nil,or_false] at hk;subst hk;refine .hR (eK.nil _) ⟨hH.kq (kids:=[s]) ((I.a1 _ _).heap (heap_alloc_new W _) (by simp)) (by rw [pt];simp [fX]) (by simp [maxLen]),fun x hx=> ?_⟩;simp only [List.mem_cons,List.not_mem_nil,or_false] at hx;subst hx;exact h1.ah kk
end Go.Proofs.YtjnlkjlbejelgaaGreat
