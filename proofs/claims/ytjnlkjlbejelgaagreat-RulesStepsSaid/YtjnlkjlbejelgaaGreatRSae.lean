/- Part of the proof. No condition: every lemma says its own. -/
import Derived.Test.YtjnlkjlbejelgaaGreatRSad
namespace Go.Proofs.YtjnlkjlbejelgaaGreat
open Go.RowKit
open Go.Value renaming int→H,slice→M,bool→F
open Go.IntKind renaming i64→J
open Go.RowKit Go.Sort Go.BigFrame
set_option maxRecDepth 100000
set_option maxHeartbeats 16000000
theorem Iw (r:Int) (p:Tree→Tree→Bool) (Ek:Tree→Tree→Tree) (m:MRe) (w:World) (aj:m.aK w) (aJ:m.ab.dE) (ds:m.ab.op=2∨m.ab.op=3) (ad:m.ab.bm≤100000)
  (hp:∀ (a b:MRe) (ak:World),a.aK ak→b.aK ak→a.ab.dE→b.ab.dE→a.ab.bm≤100000→b.ab.bm≤100000→Calls Tryz.prog 96 #[H J r,a.val,b.val] ak (lb ak (a.aw ++ b.aw) (if p a.ab b.ab=true then some [Ek a.ab b.ab] else none))):
  Calls Tryz.prog 50 #[H J r,m.val] w (dc w m.aw ((mz p m.ab.kids).map fun i=> hF m.ab.op m.ab.kids i (i + 2) [Ek (m.ab.kids.getD i .nil) (m.ab.kids.getD (i + 1) .nil)])):=by
 obtain ⟨R,aC⟩:∃ R,R=((mz p m.ab.kids).map fun i=> hF m.ab.op m.ab.kids i (i + 2) [Ek (m.ab.kids.getD i .nil) (m.ab.kids.getD (i + 1) .nil)]):=⟨_,rfl⟩;rw [←aC];have ql:=C (fun i l=> Pb aJ ds i (i + 2) l);have eX:=C (fun (W:World) (h:I [] w W) (i:Nat) (cS:Option Addr) (k6:List MRe)=> Pc m i (i + 2) cS 1 k6 W (aj.ah h));have eU:=C aj.fi;obtain ⟨op,sa,sc,set,ka,kc,kids,mn,mx,mode,n,neg⟩:=m;obtain ⟨hbl,_,hbk⟩:=lG ad;have ly:=C (fun (a b:MRe) (b8:a∈kids) (rI:b∈kids) (W:World) (h:I [] w W)=> hp a b W ((aj.dy b8).ah h) ((aj.dy rI).ah h) (mS aJ b8) (mS aJ rI) (hbk a b8) (hbk b rI));obtain ⟨U,aE,aB,c7,bI,ba,cZ,aH⟩:=rS w op sa sc set ka kc kids mn mx mode n neg;have hC:=C cZ;have hj:=C (I.refl [] aE);replace aC:R=(mz p (MRe.al kids)).map fun i=> hF op (MRe.al kids) i (i + 2) [Ek ((MRe.al kids).getD i .nil) ((MRe.al kids).getD (i + 1) .nil)]:=aC;have dW:=C aC;have hcap:=aj.ch.cap;have fc:=aj.ch.le;unfold maxLen at hcap;have ec:=C aj;simp only [MRe.val];clear aC aj aJ ad hbk hp cZ ds;obtain ⟨ar,c1,c2,an,av,ay,ax,az⟩:=bI.o.ez;go_enter Tryz.func50,Tryz.ntmps50
 go_upto_region 1 with fail
 rw [←c7.o,←aB.o];go_wp2
 go_loopw [6] (fun i wr=> ∃ k:Nat,k≤kids.length∧i=H J k∧(∀ i (h:i + 1 < (MRe.al kids).length),i < k→p (MRe.al kids)[i] (MRe.al kids)[i + 1]=false)∧I [] aE wr) (fun i _=> kids.length - (intOf i).toNat)
 case atStart=> exact ⟨0,Nat.zero_le _,rfl,by intro i _ h;omega,I.refl _ _⟩
 case round=>
  obtain ⟨k,hk,rfl,fB,ck⟩:=hrel;have eg:=C fB;have cX:=C ck;obtain ⟨t0,t1,fu,t3,t4,t5,jm,jn⟩:=ck.au ar c1 c2 an av ay ax az;have mN:IntKind.i64.wrap ((k:Int) + 1)=(k:Int) + 1:=IntWalk.i64_in _ (by omega);have CC:IntKind.i64.wrap ((k:Int) + 2)=(k:Int) + 2:=IntWalk.i64_in _ (by omega);clear fB ck ar c1 c2 an av ay ax az
  by_cases aQ:k + 1 < kids.length
  ·have i5:k + 1 < (MRe.al kids).length:=by rw [MRe.ee];exact aQ
   obtain ⟨b,off,rfl,lk,hx⟩:=(ec.o.ah (aH.o.trans cX.o)).ch.dy (by omega);have eD:=hx k (by omega);have mi:=hx (k + 1) aQ;have cQ:kids[k]∈kids:=List.getElem_mem _;have hA:kids[k + 1]∈kids:=List.getElem_mem _;have bI:=ly.o _ _ cQ hA;have qG:=fun h=> acf (p:=p) i5 eg.o h;have hall:p (MRe.al kids)[k] (MRe.al kids)[k + 1]=false→∀ i (h:i + 1 < (MRe.al kids).length),i < k + 1→p (MRe.al kids)[i] (MRe.al kids)[i + 1]=false:=fun h i hi hk=> by
    rcases Nat.lt_or_eq_of_le (Nat.le_of_lt_succ hk) with h1 | h1
    ·exact eg.o i hi h1
    ·subst h1;exact h
   rw [kQ kids k (by omega),kQ kids (k + 1) aQ] at qG hall;have n6:(MRe.al kids).getD k .nil=(kids[k]'(by omega)).ab:=by rw [List.getD_eq_getElem?_getD,List.getElem?_eq_getElem (by rw [MRe.ee];omega),Option.getD_some,kQ]
   have w6:(MRe.al kids).getD (k + 1) .nil=(kids[k + 1]'(by omega)).ab:=by rw [List.getD_eq_getElem?_getD,List.getElem?_eq_getElem (by rw [MRe.ee];omega),Option.getD_some,kQ]
   have qA:∀ x∈kids[k].aw ++ kids[k + 1].aw,x∈(MRe.node op sa sc set (some ⟨b,off,none⟩) kc kids mn mx mode n neg).aw:=fun x hx=> by
    rcases List.mem_append.1 hx with h | h
    ·exact mF cQ x h
    ·exact mF hA x h
   have YA:p kids[k].ab kids[k + 1].ab=true→R=some (hF op (MRe.al kids) k (k + 2) [Ek kids[k].ab kids[k + 1].ab]):=fun h=> by rw [dW.o,qG h,Option.map_some,n6,w6]
   have sz:=C hall;have oN:=C YA;have pP:=C qA;obtain ⟨a,KK⟩:∃ a,a=kids[k]:=⟨_,rfl⟩;obtain ⟨c,SO⟩:∃ c,c=kids[k + 1]:=⟨_,rfl⟩;rw [←KK] at eD sz oN pP;rw [←SO] at mi sz oN pP;rw [←KK,←SO] at bI;obtain ⟨ae,hq⟩:∃ ae,ae=p a.ab c.ab:=⟨_,rfl⟩;rw [←hq] at sz oN;simp only [←hq] at bI;obtain ⟨T,hT⟩:∃ T,T=Ek a.ab c.ab:=⟨_,rfl⟩;rw [←hT] at oN;simp only [←hT] at bI;obtain ⟨src,o1⟩:∃ src,src=a.aw ++ c.aw:=⟨_,rfl⟩;rw [←o1] at pP;simp only [←o1] at bI;obtain ⟨op1,aM,aN,set1,aS,kc1,aq,mn1,aI,mode1,n1,aL⟩:=a;obtain ⟨op2,cg,cf,bj,ct,kc2,a8,mn2,bY,bX,bn,bZ⟩:=c;have g:=eD.node;obtain ⟨bg,aV,a6,bl,bq,bE,bF,bH⟩:=id g;clear g;have g:=mi.node;obtain ⟨ep,aJ,cP,eM,eF,eN,eO,eP⟩:=id g;simp only [MRe.val] at bI;have bI:=C bI;have Cv:(k:Int) < (kids.length:Int):=by omega
   have aqA:(k:Int) + 1 < (kids.length:Int):=by omega
   have je:(0:Int)≤(k:Int):=by omega
   have hk1:(0:Int)≤(k:Int) + 1:=by omega
   have S9:((k:Int) + 1).toNat=k + 1:=by omega
   have HN:k < kids.length:=by omega
   clear g eD mi hx cQ hA qG hall n6 w6 qA YA KK SO hq hT o1;go_wp2;refine rg (S:=fun w'=> w'.cell? ⟨U,2,none⟩=some (M (some ⟨b,off,none⟩) kids.length kc)∧(w'.cell? ⟨b,off + k * 8,none⟩=some (H J op1)∧w'.cell? ⟨b,off + k * 8 + 1,none⟩=some (M aM set1.length aN)∧w'.cell? ⟨b,off + k * 8 + 2,none⟩=some (M aS aq.length kc1)∧w'.cell? ⟨b,off + k * 8 + 3,none⟩=some (H J mn1)∧w'.cell? ⟨b,off + k * 8 + 4,none⟩=some (H J aI)∧w'.cell? ⟨b,off + k * 8 + 5,none⟩=some (H J mode1)∧w'.cell? ⟨b,off + k * 8 + 6,none⟩=some (H J n1)∧w'.cell? ⟨b,off + k * 8 + 7,none⟩=some (F aL))∧(w'.cell? ⟨b,off + (k + 1) * 8,none⟩=some (H J op2)∧w'.cell? ⟨b,off + (k + 1) * 8 + 1,none⟩=some (M cg bj.length cf)∧w'.cell? ⟨b,off + (k + 1) * 8 + 2,none⟩=some (M ct a8.length kc2)∧w'.cell? ⟨b,off + (k + 1) * 8 + 3,none⟩=some (H J mn2)∧w'.cell? ⟨b,off + (k + 1) * 8 + 4,none⟩=some (H J bY)∧w'.cell? ⟨b,off + (k + 1) * 8 + 5,none⟩=some (H J bX)∧w'.cell? ⟨b,off + (k + 1) * 8 + 6,none⟩=some (H J bn)∧w'.cell? ⟨b,off + (k + 1) * 8 + 7,none⟩=some (F bZ))) (fun _ k=> ⟨k.c fu,(k.au bg aV a6 bl bq bE bF bH),(k.au ep aJ cP eM eF eN eO eP)⟩) fun bM aF=> ?_;refine ag 0 ?_;refine ag 1 ?_;refine ag 2 ?_;refine ag 3 ?_;refine ag 4 ?_;refine ag 5 ?_;refine ag 6 ?_;refine ag 7 ?_;refine ag 8 ?_;refine ag 9 ?_;refine ag 10 ?_;refine ag 11 ?_;refine bh 12 fun ai af=> ?_;go_simp
   go_at_call 96
   refine Calls.mono (bI.o _ ((aH.o.trans cX.o).drew)) ?_;intro e w3 jX
   cases ae with
   | false=>
    obtain ⟨rfl,aP⟩:=jX;have k0:=C (((I.refl [] wr).drew).trans aP);clear aP;refine af.out _ _ (bM.o _ k0.o) fun aF=> ?_;clear af ai;try go_frame
    refine ag 13 ?_;refine ag 14 ?_;refine ag 15 ?_;refine ag 16 ?_;refine ag 17 ?_;refine dR ?_;have kR:=C (sz.o rfl);have kl:=C (cX.o.trans k0.o);clear t0 t1 fu t3 t4 t5 jm jn bg aV a6 bl bq bE bF bH ep aJ cP eM eF eN eO eP aF;go_wp2;go_roundw
    case rel=> exact ⟨k + 1,by omega,by go_num,kR.o,kl.o⟩
    case measure=> simp [intOf];omega
   | true=>
    obtain ⟨cS,k6,rfl,Z3,xa,oC,aP,m8⟩:=jX;have k0:=C (((I.refl [] wr).drew).trans aP);have Qk:=C oC;have afh:=C xa;have BO:=C Z3;have afg:=C m8;clear aP Z3 xa oC m8;refine af.out _ _ (bM.o _ k0.o) fun aF=> ?_;clear af ai;try go_frame
    refine ag 13 ?_;refine ag 14 ?_;refine ag 15 ?_;refine ag 16 ?_;refine ag 17 ?_;refine dR ?_;have Sv:=oN.o rfl;rw [←afh.o] at Sv;have mq:=C (fun (q0:MRe) (h:q0.ab=hF op (MRe.al kids) k (k + 2) (MRe.al k6))=> show R=some q0.ab by rw [Sv,h]);have oq:=C (cX.o.trans k0.o);have vs:=C (show ∀ x∈MRe.dN k6,x∈(MRe.node op sa sc set (some ⟨b,off,none⟩) kc kids mn mx mode n neg).aw∨U + 2≤x from fun x hx=> by
     rcases afg.o x hx with h | h
     ·exact .inl (pP.o x h)
     ·exact .inr (Nat.le_trans hC.o (Nat.le_trans cX.o.size h)))
    have hs:=eX.o _ (aH.o.trans oq.o) k cS k6 Qk.o (by omega) (by show k + 2≤kids.length;omega) (by show 0 < kids.length;omega) (by show kids.length + k6.length≤1000000;have:=BO.o;omega);rw [show ((k + 2:Nat):Int)=(k:Int) + 2 by omega,ql.o] at hs;have cW:=C hs;obtain ⟨u0,u1,u2,u3,u4,u5,u6,u7⟩:=k0.o.au t0 t1 fu t3 t4 t5 jm jn;clear Sv hs t0 t1 fu t3 t4 t5 jm jn bg aV a6 bl bq bE bF bH ep aJ cP eM eF eN eO eP aF;go_wp2_with fail
    refine Calls.mono cW.o ?_;rintro e fN ⟨ae,rfl,a7,aT,cU,hqf⟩;have pM:=C cU;have gu:=C (oq.o.trans cU);have dK:=C a7;have dA:=C aT;have et:=C hqf;obtain ⟨q0,bN⟩:∃ q0,q0=ae:=⟨_,rfl⟩;rw [←bN] at dK dA et;have dt:=C bN;clear a7 aT cU hqf bN;obtain ⟨bA,bB,bC,bD,bs,bt,bu,bo,bx,bw,bp,bz⟩:=ae;simp only [MRe.val];obtain ⟨z0,z1,z2,z3,z4,z5,b9,cc,cj⟩:=ew (gu.o.h ba.o);clear u0 u1 u2 u3 u4 u5 u6 u7;go_wp2;have hfr:=vp et.o vs.o (Nat.le_trans hC.o oq.o.size);rw [dt.o] at hfr;obtain ⟨aY,cm,fy,gB⟩:=nd aB.o aH.o gu.o ba.o (by rw [←dt.o];exact dA.o) hfr eU.o;refine rt aY ?_;exact dc.iI (.node bA bB bC bD bs bt bu bo bx bw bp bz) (by rw [←dt.o];exact mq.o q0 dK.o) rfl cm fy gB
  ·have ZT:¬ (k:Int) + 1 < (kids.length:Int):=by omega
   have h0:mz p (MRe.al kids)=none:=ace fun i hi=> eg.o i hi (by rw [MRe.ee] at hi;omega);have aD:=C (show R=none by rw [dW.o,h0];rfl);clear h0;obtain ⟨z0,z1,z2,z3,z4,z5,b9,cc,cj,cw,bQ⟩:=gR aB.o aH.o cX.o ba.o;go_wp2;refine rt cw.o ?_;exact dc.dL aD.o rfl bQ.o
theorem anf (m1 m2:MRe) (w:World) (aj:m1.aK w) (cV:m2.aK w) (aJ:m1.ab.dE) (cP:m2.ab.dE) (b1:m1.ab.bm≤100000) (b2:m2.ab.bm≤100000):
  Calls Tryz.prog 96 #[H J 10,m1.val,m2.val] w (lb w (m1.aw ++ m2.aw) (if x2 m1.ab m2.ab=true then some [m2.ab] else none)):=by
 obtain ⟨R,aC⟩:∃ R,R=if x2 m1.ab m2.ab=true then some [m2.ab] else none:=⟨_,rfl⟩;rw [←aC];obtain ⟨bW,cQ⟩:∃ bW,bW=m1:=⟨_,rfl⟩;obtain ⟨n0,iC⟩:∃ n0,n0=m2:=⟨_,rfl⟩;rw [←cQ] at aj aJ b1 aC;rw [←iC] at cV cP b2 aC;have cW:=fun (k:MRe) (Ue:k.aK w) (l9:k.ab.bm≤100000) (W:World) (h:I [] w W)=> UP n0 k W (cV.ah h) (Ue.ah h) cP b2 l9;have tN:=C cV;have hA:=cQ;have QW:=C iC;obtain ⟨op1,aM,aN,set1,aS,kc1,aq,mn1,aI,mode1,n1,aL⟩:=m1;obtain ⟨op2,cg,cf,bj,ct,kc2,a8,mn2,bY,bX,bn,bZ⟩:=m2;have gp:bW.ab.op=op1:=by rw [cQ];rfl
 replace aC:R=if ((op1==4 && (mode1==0 && (mn1==0 && aI==1))) && (oI n0.ab && (iQ (tA bW.ab) (tA n0.ab) && !fA (tA bW.ab))))=true then some [n0.ab] else none:=by rw [aC,x2,sg,cQ];rfl
 have kS:=C (show ∀ x∈n0.aw,x∈(MRe.node op1 aM aN set1 aS kc1 aq mn1 aI mode1 n1 aL).aw ++ (MRe.node op2 cg cf bj ct kc2 a8 mn2 bY bX bn bZ).aw by rw [iC];exact fun x hx=> List.mem_append_right _ hx);simp only [MRe.val]
 by_cases h4:op1=4
 ·by_cases hn:mn1=0
  ·by_cases hx:aI=1
   ·by_cases ds:mode1=0
    ·obtain ⟨b3,iV,fk,Af,n7,mI,mJ,il,l7,hln⟩:=Gy aj aJ (by rw [gp];exact h4) hA;have Dt:fk.ab.bm≤100000:=by rw [cQ] at b1;exact (lG b1).2.2 _ n7
     have Es:=(by rw [cQ] at aJ;exact mS aJ n7:fk.ab.dE);have cW:=cW fk mJ Dt;have dP:=fun (W:World) (h:I [] w W)=> CR fk W (mJ.ah h) Es.ae;rw [il,h4,hn,hx,ds,XE fk.ab] at aC;obtain ⟨s,hs⟩:∃ s,s=(oI n0.ab && iQ (tA n0.ab) fk.ab):=⟨_,rfl⟩;obtain ⟨z,aW⟩:∃ z,z=fA fk.ab:=⟨_,rfl⟩;replace aC:R=if (s && !z)=true then some [n0.ab] else none:=by
      rw [aC,hs,aW];simp [Bool.and_assoc]
     simp only [←hs] at cW;simp only [←aW] at dP;have m9:n0.val=.agg #[H J op2,M cg bj.length cf,M ct a8.length kc2,H J mn2,H J bY,H J bX,H J bn,F bZ]:=by rw [iC];rfl
     simp only [m9] at cW;obtain ⟨op3,dk,dm,set3,di,dj,kids3,cA,cC,cB,cv,cx⟩:=fk;have g:=mI.node;obtain ⟨bg,aV,a6,bl,bq,bE,bF,bH⟩:=id g;simp only [MRe.val] at cW dP;obtain ⟨U,aA,ar,c1,c2,an,av,ay,ax,az,bK,d1,d2,bL,bO,bT,bU,bV,dw,aB,aZ⟩:=nc w op1 aM aN set1 aS kc1 aq mn1 aI mode1 n1 aL op2 cg cf bj ct kc2 a8 mn2 bY bX bn bZ;have gi:=C (show aA.cell? ⟨(U+1),0,none⟩=some (H J op2)∧aA.cell? ⟨(U+1),1,none⟩=some (M cg bj.length cf)∧aA.cell? ⟨(U+1),2,none⟩=some (M ct a8.length kc2)∧aA.cell? ⟨(U+1),3,none⟩=some (H J mn2)∧aA.cell? ⟨(U+1),4,none⟩=some (H J bY)∧aA.cell? ⟨(U+1),5,none⟩=some (H J bX)∧aA.cell? ⟨(U+1),6,none⟩=some (H J bn)∧aA.cell? ⟨(U+1),7,none⟩=some (F bZ) from ⟨bK,d1,d2,bL,bO,bT,bU,bV⟩);obtain ⟨dv,dI,ea,fo,gO,ha,hb,hd⟩:=aZ.o.au bg aV a6 bl bq bE bF bH;have nG:∀ d os,Calls Tryz.prog 133 #[.agg #[H J op2,M cg bj.length cf,M ct a8.length kc2,H J mn2,H J bY,H J bX,H J bn,F bZ],.agg #[H J op3,M dk set3.length dm,M di kids3.length dj,H J cA,H J cC,H J cB,H J cv,F cx]] (grow (redrawn aA d) os) fun e jw=> e=.returned (F s)∧∃ p:Regrown,jw=grow (redrawn aA p.d) p.os:=fun d os=> Calls.regrown_of ((cW _ (aZ.o.trans (I.kY (below_regrown aA d os)))).mono fun e w' ⟨he,hk⟩=> ⟨he,hk.below (Nat.le_refl _)⟩);have oL:=C nG;have Ca:∀ d os,Calls Tryz.prog 52 #[.agg #[H J op3,M dk set3.length dm,M di kids3.length dj,H J cA,H J cC,H J cB,H J cv,F cx]] (grow (redrawn aA d) os) fun e jw=> e=.returned (F z)∧∃ p:Regrown,jw=grow (redrawn aA p.d) p.os:=fun d os=> Calls.regrown_of ((dP _ (aZ.o.trans (I.kY (below_regrown aA d os)))).mono fun e w' ⟨he,hk⟩=> ⟨he,hk.below (Nat.le_refl _)⟩);have Ey:=C Ca;have dW:=C aC;subst Af;subst h4;subst hn;subst hx;subst ds;clear nG Ca cW dP hs aW gp bg aV a6 bl bq bE bF bH g aj cV aJ cP b1 b2 cQ hA iC m9 n7 mI mJ il Dt Es aC
     cases s with
     | false=>
      have aD:=C (show R=none by rw [dW.o];simp);go_enter Tryz.func96,Tryz.ntmps96
      go_upto_region 1 with fail
      rw [←dw.o,←aB.o];go_upto_region 3 with fail
      go_cut [10] (fun iS db=> ∃ eG:Bool,iS=F eG∧aA=db)
      case first=>
       go_wp2;go_meet;exact ⟨_,rfl,rfl⟩
      obtain ⟨eG,rfl,rfl⟩:=hcut;go_upto_region 18 with fail
      have u0:=cell_regrown ar;have u1:=cell_regrown c1;have u2:=cell_regrown c2;have u3:=cell_regrown an;have u4:=cell_regrown av;have u5:=cell_regrown ay;have u6:=cell_regrown ax;have u7:=cell_regrown az;have v0:=cell_regrown bK;have v1:=cell_regrown d1;have v2:=cell_regrown d2;have v3:=cell_regrown bL;have v4:=cell_regrown bO;have v5:=cell_regrown bT;have v6:=cell_regrown bU;have v7:=cell_regrown bV;have c6:=cell_regrown dv;have y1:=cell_regrown dI;have dp:=cell_regrown ea;have eb:=cell_regrown fo;have ef:=cell_regrown gO;have ej:=cell_regrown ha;have ek:=cell_regrown hb;have el:=cell_regrown hd;clear ar c1 c2 an av ay ax az bK d1 d2 bL bO bT bU bV dv dI ea fo gO ha hb hd;refine wp_region_quiet_below (by kernel_rfl) (by kernel_rfl) ?_
      repeat (go_big_quiet_step (exact oL.o _ _))
      refine wpQuiet_nil ?_;intro _ i7;obtain ⟨dY,jK⟩:=i7;subst jK;have hk:=I.kY (below_regrown aA dY.d dY.os);have lW:=C hk;have b6:=C (aZ.o.trans hk);clear hk u0 u1 u2 u3 u4 u5 u6 u7 v0 v1 v2 v3 v4 v5 v6 v7 c6 y1 dp eb ef ej ek el
      generalize grow (redrawn aA dY.d) dY.os=fO at *
      go_wp2
      go_ret2
      exact lb.dL aD.o rfl b6.o
     | true=>
      cases z with
      | true=>
       have aD:=C (show R=none by rw [dW.o];simp);go_enter Tryz.func96,Tryz.ntmps96
       go_upto_region 1 with fail
       rw [←dw.o,←aB.o];go_upto_region 3 with fail
       go_cut [10] (fun iS db=> ∃ eG:Bool,iS=F eG∧aA=db)
       case first=>
        go_wp2;go_meet;exact ⟨_,rfl,rfl⟩
       obtain ⟨eG,rfl,rfl⟩:=hcut;go_upto_region 18 with fail
       have u0:=cell_regrown ar;have u1:=cell_regrown c1;have u2:=cell_regrown c2;have u3:=cell_regrown an;have u4:=cell_regrown av;have u5:=cell_regrown ay;have u6:=cell_regrown ax;have u7:=cell_regrown az;have v0:=cell_regrown bK;have v1:=cell_regrown d1;have v2:=cell_regrown d2;have v3:=cell_regrown bL;have v4:=cell_regrown bO;have v5:=cell_regrown bT;have v6:=cell_regrown bU;have v7:=cell_regrown bV;have c6:=cell_regrown dv;have y1:=cell_regrown dI;have dp:=cell_regrown ea;have eb:=cell_regrown fo;have ef:=cell_regrown gO;have ej:=cell_regrown ha;have ek:=cell_regrown hb;have el:=cell_regrown hd;clear ar c1 c2 an av ay ax az bK d1 d2 bL bO bT bU bV dv dI ea fo gO ha hb hd;refine wp_region_quiet_below (by kernel_rfl) (by kernel_rfl) ?_
       repeat (go_big_quiet_step (first | exact oL.o _ _ | exact Ey.o _ _))
       refine wpQuiet_nil ?_;intro _ i7;obtain ⟨dY,jK⟩:=i7;subst jK;have hk:=I.kY (below_regrown aA dY.d dY.os);have lW:=C hk;have b6:=C (aZ.o.trans hk);clear hk u0 u1 u2 u3 u4 u5 u6 u7 v0 v1 v2 v3 v4 v5 v6 v7 c6 y1 dp eb ef ej ek el
       generalize grow (redrawn aA dY.d) dY.os=fO at *
       go_wp2
       go_ret2
       exact lb.dL aD.o rfl b6.o
      | false=>
       have aD:=C (show R=some [n0.ab] by rw [dW.o];simp);go_enter Tryz.func96,Tryz.ntmps96
       go_upto_region 1 with fail
       rw [←dw.o,←aB.o];go_upto_region 3 with fail
       go_cut [10] (fun iS db=> ∃ eG:Bool,iS=F eG∧aA=db)
       case first=>
        go_wp2;go_meet;exact ⟨_,rfl,rfl⟩
       obtain ⟨eG,rfl,rfl⟩:=hcut;go_upto_region 18 with fail
       have u0:=cell_regrown ar;have u1:=cell_regrown c1;have u2:=cell_regrown c2;have u3:=cell_regrown an;have u4:=cell_regrown av;have u5:=cell_regrown ay;have u6:=cell_regrown ax;have u7:=cell_regrown az;have v0:=cell_regrown bK;have v1:=cell_regrown d1;have v2:=cell_regrown d2;have v3:=cell_regrown bL;have v4:=cell_regrown bO;have v5:=cell_regrown bT;have v6:=cell_regrown bU;have v7:=cell_regrown bV;have c6:=cell_regrown dv;have y1:=cell_regrown dI;have dp:=cell_regrown ea;have eb:=cell_regrown fo;have ef:=cell_regrown gO;have ej:=cell_regrown ha;have ek:=cell_regrown hb;have el:=cell_regrown hd;clear ar c1 c2 an av ay ax az bK d1 d2 bL bO bT bU bV dv dI ea fo gO ha hb hd;refine wp_region_quiet_below (by kernel_rfl) (by kernel_rfl) ?_
       repeat (go_big_quiet_step (first | exact oL.o _ _ | exact Ey.o _ _))
       refine wpQuiet_nil ?_;intro _ i7;obtain ⟨dY,jK⟩:=i7;subst jK;have hk:=I.kY (below_regrown aA dY.d dY.os);have lW:=C hk;have b6:=C (aZ.o.trans hk);clear hk u0 u1 u2 u3 u4 u5 u6 u7 v0 v1 v2 v3 v4 v5 v6 v7 c6 y1 dp eb ef ej ek el
       generalize grow (redrawn aA dY.d) dY.os=fO at *
       obtain ⟨bK,d1,d2,bL,bO,bT,bU,bV⟩:=gi.o;obtain ⟨v0,v1,v2,v3,v4,v5,v6,v7⟩:=lW.o.au bK d1 d2 bL bO bT bU bV;clear bK d1 d2 bL bO bT bU bV;go_wp2
       go_ret2
       exact lb.iI (some ⟨fO.heap.size,0,none⟩) n0 aD.o rfl rfl (LW (tN.o.ah b6.o) _ (by rw [QW.o];rfl)) (b6.o.trans (I.a1 _ _)) (du.rR kS.o)
    ·have cX:=tN;have j6:(mode1==0)=false:=by simpa using ds
     have aD:=C (show R=none by rw [aC,j6];simp);clear aC cW tN cQ hA iC aj cV aJ cP b1 b2 gp;obtain ⟨U,aA,ar,c1,c2,an,av,ay,ax,az,bK,d1,d2,bL,bO,bT,bU,bV,dw,aB,aZ⟩:=nc w op1 aM aN set1 aS kc1 aq mn1 aI mode1 n1 aL op2 cg cf bj ct kc2 a8 mn2 bY bX bn bZ;subst h4;subst hn;subst hx;go_enter Tryz.func96,Tryz.ntmps96
     go_upto_region 1 with fail
     rw [←dw.o,←aB.o];go_upto_region 3 with fail
     go_cut [10] (fun iS db=> ∃ eG:Bool,iS=F eG∧aA=db)
     case first=>
      go_wp2;go_meet;exact ⟨_,rfl,rfl⟩
     obtain ⟨eG,rfl,rfl⟩:=hcut;go_upto_region 18 with fail
     go_quiet (fail)
     go_wp2
     go_ret2
     exact lb.dL aD.o rfl (aZ.o.drewN _)
   ·have cX:=tN;have j6:(aI==1)=false:=by simpa using hx
    have aD:=C (show R=none by rw [aC,j6];simp);clear aC cW tN cQ hA iC aj cV aJ cP b1 b2 gp;obtain ⟨U,aA,ar,c1,c2,an,av,ay,ax,az,bK,d1,d2,bL,bO,bT,bU,bV,dw,aB,aZ⟩:=nc w op1 aM aN set1 aS kc1 aq mn1 aI mode1 n1 aL op2 cg cf bj ct kc2 a8 mn2 bY bX bn bZ;subst h4;subst hn;go_enter Tryz.func96,Tryz.ntmps96
    go_upto_region 1 with fail
    rw [←dw.o,←aB.o];go_upto_region 3 with fail
    go_cut [10] (fun iS db=> ∃ eG:Bool,iS=F eG∧aA=db)
    case first=>
     go_wp2;go_meet;exact ⟨_,rfl,rfl⟩
    obtain ⟨eG,rfl,rfl⟩:=hcut;go_upto_region 18 with fail
    go_quiet (fail)
    go_wp2
    go_ret2
    exact lb.dL aD.o rfl (aZ.o.drewN _)
  ·have cX:=tN;have j6:(mn1==0)=false:=by simpa using hn
   have aD:=C (show R=none by rw [aC,j6];simp);clear aC cW tN cQ hA iC aj cV aJ cP b1 b2 gp;obtain ⟨U,aA,ar,c1,c2,an,av,ay,ax,az,bK,d1,d2,bL,bO,bT,bU,bV,dw,aB,aZ⟩:=nc w op1 aM aN set1 aS kc1 aq mn1 aI mode1 n1 aL op2 cg cf bj ct kc2 a8 mn2 bY bX bn bZ;subst h4;go_enter Tryz.func96,Tryz.ntmps96
   go_upto_region 1 with fail
   rw [←dw.o,←aB.o];go_upto_region 3 with fail
   go_cut [10] (fun iS db=> ∃ eG:Bool,iS=F eG∧aA=db)
   case first=>
    go_wp2;go_meet;exact ⟨_,rfl,rfl⟩
   obtain ⟨eG,rfl,rfl⟩:=hcut;go_upto_region 18 with fail
   go_quiet (fail)
   go_wp2
   go_ret2
   exact lb.dL aD.o rfl (aZ.o.drewN _)
 ·have cX:=tN;have j6:(op1==4)=false:=by simpa using h4
  have aD:=C (show R=none by rw [aC,j6];simp);clear aC cW tN cQ hA iC aj cV aJ cP b1 b2 gp;obtain ⟨U,aA,ar,c1,c2,an,av,ay,ax,az,bK,d1,d2,bL,bO,bT,bU,bV,dw,aB,aZ⟩:=nc w op1 aM aN set1 aS kc1 aq mn1 aI mode1 n1 aL op2 cg cf bj ct kc2 a8 mn2 bY bX bn bZ;go_enter Tryz.func96,Tryz.ntmps96
  go_upto_region 1 with fail
  rw [←dw.o,←aB.o];go_upto_region 3 with fail
  go_cut [10] (fun iS db=> ∃ eG:Bool,iS=F eG∧aA=db)
  case first=>
   by_cases z2:op1=2
   ·by_cases z3:op2=2
    ·subst z2;subst z3;go_wp2;go_meet;exact ⟨_,rfl,rfl⟩
    ·have PB:(op2==2)=false:=by simpa using z3
     subst z2;go_wp2;go_meet;exact ⟨_,rfl,rfl⟩
   ·have PA:(op1==2)=false:=by simpa using z2
    go_wp2;go_meet;exact ⟨_,rfl,rfl⟩
  obtain ⟨eG,rfl,rfl⟩:=hcut;go_upto_region 18 with fail
  go_quiet (fail)
  go_wp2
  go_ret2
  exact lb.dL aD.o rfl (aZ.o.drewN _)
theorem ank (m1 m2:MRe) (w:World) (aj:m1.aK w) (cV:m2.aK w) (aJ:m1.ab.dE) (b1:m1.ab.bm≤100000) (b2:m2.ab.bm≤100000):
  Calls Tryz.prog 96 #[H J 9,m1.val,m2.val] w (lb w (m1.aw ++ m2.aw) (if x8 m1.ab m2.ab=true then some [m2.ab] else none)):=by
 obtain ⟨R,aC⟩:∃ R,R=if x8 m1.ab m2.ab=true then some [m2.ab] else none:=⟨_,rfl⟩;rw [←aC];have eE:=fun (k:MRe) (hk:tA m1.ab=k.ab) (W:World) (h:I [] w W) (Ue:k.aK w) (l9:k.ab.bm≤100000)=> UP m1 k W (aj.ah h) (Ue.ah h) aJ b1 l9;have gw:=fun (W:World) (h:I [] w W)=> L9 m1 m2 W (aj.ah h) (cV.ah h) b1 b2;have gm:x8 m1.ab m2.ab=(oI m1.ab && (iQ m1.ab m2.ab && !fA (tA m1.ab))):=rfl;rw [gm] at aC;obtain ⟨bW,cQ⟩:∃ bW,bW=m1:=⟨_,rfl⟩;obtain ⟨n0,iC⟩:∃ n0,n0=m2:=⟨_,rfl⟩;rw [←cQ] at aj aJ b1 aC;rw [←iC] at cV b2 aC;have hA:=cQ;have QW:=C iC;have hmo:=fun h=> Pp (t:=bW.ab) h;obtain ⟨s,hs⟩:∃ s,s=oI bW.ab:=⟨_,rfl⟩;obtain ⟨ae,hq⟩:∃ ae,ae=iQ bW.ab n0.ab:=⟨_,rfl⟩;rw [←hs,←hq] at aC;rw [←cQ,←iC] at gw;rw [←cQ] at eE;simp only [←hq] at gw;obtain ⟨op1,aM,aN,set1,aS,kc1,aq,mn1,aI,mode1,n1,aL⟩:=m1;obtain ⟨op2,cg,cf,bj,ct,kc2,a8,mn2,bY,bX,bn,bZ⟩:=m2;have gp:bW.ab.op=op1:=by rw [cQ];rfl
 have s3:bW.val=.agg #[H J op1,M aM set1.length aN,M aS aq.length kc1,H J mn1,H J aI,H J mode1,H J n1,F aL]:=by rw [cQ];rfl
 have m9:n0.val=.agg #[H J op2,M cg bj.length cf,M ct a8.length kc2,H J mn2,H J bY,H J bX,H J bn,F bZ]:=by rw [iC];rfl
 simp only [s3,m9] at gw eE;have kS:=C (show ∀ x∈n0.aw,x∈(MRe.node op1 aM aN set1 aS kc1 aq mn1 aI mode1 n1 aL).aw ++ (MRe.node op2 cg cf bj ct kc2 a8 mn2 bY bX bn bZ).aw by rw [iC];exact fun x hx=> List.mem_append_right _ hx);have vB:=C cV;simp only [MRe.val]
 by_cases h4:op1=4
 ·obtain ⟨b3,iV,fk,Af,n7,mI,mJ,il,l7,hln⟩:=Gy aj aJ (by rw [gp];exact h4) hA;have Dt:fk.ab.bm≤100000:=by rw [cQ] at b1;exact (lG b1).2.2 _ n7
  have Es:=(by rw [cQ] at aJ;exact mS aJ n7:fk.ab.dE);have cW:=fun (W:World) (h:I [] w W)=> eE fk il W h mJ Dt;have dP:=fun (W:World) (h:I [] w W)=> CR fk W (mJ.ah h) Es.ae;have aaO:(oI bW.ab && iQ (tA bW.ab) fk.ab)=s:=by rw [il,(J7 _ _).2 rfl,←hs];simp
  rw [aaO] at cW;rw [il] at aC;obtain ⟨z,aW⟩:∃ z,z=fA fk.ab:=⟨_,rfl⟩;rw [←aW] at aC;simp only [←aW] at dP;obtain ⟨op3,dk,dm,set3,di,dj,kids3,cA,cC,cB,cv,cx⟩:=fk;have g:=mI.node;obtain ⟨bg,aV,a6,bl,bq,bE,bF,bH⟩:=id g;simp only [MRe.val] at cW dP;obtain ⟨U,aA,ar,c1,c2,an,av,ay,ax,az,bK,d1,d2,bL,bO,bT,bU,bV,dw,aB,aZ⟩:=nc w op1 aM aN set1 aS kc1 aq mn1 aI mode1 n1 aL op2 cg cf bj ct kc2 a8 mn2 bY bX bn bZ;have gi:=C (show aA.cell? ⟨(U+1),0,none⟩=some (H J op2)∧aA.cell? ⟨(U+1),1,none⟩=some (M cg bj.length cf)∧aA.cell? ⟨(U+1),2,none⟩=some (M ct a8.length kc2)∧aA.cell? ⟨(U+1),3,none⟩=some (H J mn2)∧aA.cell? ⟨(U+1),4,none⟩=some (H J bY)∧aA.cell? ⟨(U+1),5,none⟩=some (H J bX)∧aA.cell? ⟨(U+1),6,none⟩=some (H J bn)∧aA.cell? ⟨(U+1),7,none⟩=some (F bZ) from ⟨bK,d1,d2,bL,bO,bT,bU,bV⟩);obtain ⟨dv,dI,ea,fo,gO,ha,hb,hd⟩:=aZ.o.au bg aV a6 bl bq bE bF bH;have nG:∀ d os,Calls Tryz.prog 133 #[.agg #[H J op1,M aM set1.length aN,M aS aq.length kc1,H J mn1,H J aI,H J mode1,H J n1,F aL],.agg #[H J op3,M dk set3.length dm,M di kids3.length dj,H J cA,H J cC,H J cB,H J cv,F cx]] (grow (redrawn aA d) os) fun e jw=> e=.returned (F s)∧∃ p:Regrown,jw=grow (redrawn aA p.d) p.os:=fun d os=> Calls.regrown_of ((cW _ (aZ.o.trans (I.kY (below_regrown aA d os)))).mono fun e w' ⟨he,hk⟩=> ⟨he,hk.below (Nat.le_refl _)⟩);have oL:=C nG;have qx:∀ d os,Calls Tryz.prog 95 #[.agg #[H J op1,M aM set1.length aN,M aS aq.length kc1,H J mn1,H J aI,H J mode1,H J n1,F aL],.agg #[H J op2,M cg bj.length cf,M ct a8.length kc2,H J mn2,H J bY,H J bX,H J bn,F bZ]] (grow (redrawn aA d) os) fun e jw=> e=.returned (F ae)∧∃ p:Regrown,jw=grow (redrawn aA p.d) p.os:=fun d os=> Calls.regrown_of ((gw _ (aZ.o.trans (I.kY (below_regrown aA d os)))).mono fun e w' ⟨he,hk⟩=> ⟨he,hk.below (Nat.le_refl _)⟩);have rp:=C qx;have Ca:∀ d os,Calls Tryz.prog 52 #[.agg #[H J op3,M dk set3.length dm,M di kids3.length dj,H J cA,H J cC,H J cB,H J cv,F cx]] (grow (redrawn aA d) os) fun e jw=> e=.returned (F z)∧∃ p:Regrown,jw=grow (redrawn aA p.d) p.os:=fun d os=> Calls.regrown_of ((dP _ (aZ.o.trans (I.kY (below_regrown aA d os)))).mono fun e w' ⟨he,hk⟩=> ⟨he,hk.below (Nat.le_refl _)⟩);have Ey:=C Ca;have dW:=C aC;subst Af;subst h4;clear nG qx Ca cW gw dP eE gm hs hq hmo gp aaO aW bg aV a6 bl bq bE bF bH g aj cV aJ b1 b2 cQ hA iC s3 m9 n7 mI mJ il Dt Es aC
  cases s with
  | false=>
   have aD:=C (show R=none by rw [dW.o];simp);go_enter Tryz.func96,Tryz.ntmps96
   go_upto_region 1 with fail
   rw [←dw.o,←aB.o];go_upto_region 3 with fail
   go_cut [10] (fun iS db=> ∃ eG:Bool,iS=F eG∧aA=db)
   case first=>
    go_wp2;go_meet;exact ⟨_,rfl,rfl⟩
   obtain ⟨eG,rfl,rfl⟩:=hcut;go_upto_region 15 with fail
   have u0:=cell_regrown ar;have u1:=cell_regrown c1;have u2:=cell_regrown c2;have u3:=cell_regrown an;have u4:=cell_regrown av;have u5:=cell_regrown ay;have u6:=cell_regrown ax;have u7:=cell_regrown az;have v0:=cell_regrown bK;have v1:=cell_regrown d1;have v2:=cell_regrown d2;have v3:=cell_regrown bL;have v4:=cell_regrown bO;have v5:=cell_regrown bT;have v6:=cell_regrown bU;have v7:=cell_regrown bV;have c6:=cell_regrown dv;have y1:=cell_regrown dI;have dp:=cell_regrown ea;have eb:=cell_regrown fo;have ef:=cell_regrown gO;have ej:=cell_regrown ha;have ek:=cell_regrown hb;have el:=cell_regrown hd;clear ar c1 c2 an av ay ax az bK d1 d2 bL bO bT bU bV dv dI ea fo gO ha hb hd;refine wp_region_quiet_below (by kernel_rfl) (by kernel_rfl) ?_
   repeat (go_big_quiet_step (exact oL.o _ _))
   refine wpQuiet_nil ?_;intro _ i7;obtain ⟨dY,jK⟩:=i7;subst jK;have hk:=I.kY (below_regrown aA dY.d dY.os);have lW:=C hk;have b6:=C (aZ.o.trans hk);clear hk u0 u1 u2 u3 u4 u5 u6 u7 v0 v1 v2 v3 v4 v5 v6 v7 c6 y1 dp eb ef ej ek el
   generalize grow (redrawn aA dY.d) dY.os=fO at *
   go_wp2
   go_ret2
   exact lb.dL aD.o rfl b6.o
  | true=>
   cases ae with
   | false=>
    have aD:=C (show R=none by rw [dW.o];simp);go_enter Tryz.func96,Tryz.ntmps96
    go_upto_region 1 with fail
    rw [←dw.o,←aB.o];go_upto_region 3 with fail
    go_cut [10] (fun iS db=> ∃ eG:Bool,iS=F eG∧aA=db)
    case first=>
     go_wp2;go_meet;exact ⟨_,rfl,rfl⟩
    obtain ⟨eG,rfl,rfl⟩:=hcut;go_upto_region 15 with fail
    have u0:=cell_regrown ar;have u1:=cell_regrown c1;have u2:=cell_regrown c2;have u3:=cell_regrown an;have u4:=cell_regrown av;have u5:=cell_regrown ay;have u6:=cell_regrown ax;have u7:=cell_regrown az;have v0:=cell_regrown bK;have v1:=cell_regrown d1;have v2:=cell_regrown d2;have v3:=cell_regrown bL;have v4:=cell_regrown bO;have v5:=cell_regrown bT;have v6:=cell_regrown bU;have v7:=cell_regrown bV;have c6:=cell_regrown dv;have y1:=cell_regrown dI;have dp:=cell_regrown ea;have eb:=cell_regrown fo;have ef:=cell_regrown gO;have ej:=cell_regrown ha;have ek:=cell_regrown hb;have el:=cell_regrown hd;clear ar c1 c2 an av ay ax az bK d1 d2 bL bO bT bU bV dv dI ea fo gO ha hb hd;refine wp_region_quiet_below (by kernel_rfl) (by kernel_rfl) ?_
    repeat (go_big_quiet_step (first | exact oL.o _ _ | exact rp.o _ _))
    refine wpQuiet_nil ?_;intro _ i7;obtain ⟨dY,jK⟩:=i7;subst jK;have hk:=I.kY (below_regrown aA dY.d dY.os);have lW:=C hk;have b6:=C (aZ.o.trans hk);clear hk u0 u1 u2 u3 u4 u5 u6 u7 v0 v1 v2 v3 v4 v5 v6 v7 c6 y1 dp eb ef ej ek el
    generalize grow (redrawn aA dY.d) dY.os=fO at *
    go_wp2
    go_ret2
    exact lb.dL aD.o rfl b6.o
   | true=>
    cases z with
    | true=>
     have aD:=C (show R=none by rw [dW.o];simp);go_enter Tryz.func96,Tryz.ntmps96
     go_upto_region 1 with fail
     rw [←dw.o,←aB.o];go_upto_region 3 with fail
     go_cut [10] (fun iS db=> ∃ eG:Bool,iS=F eG∧aA=db)
     case first=>
      go_wp2;go_meet;exact ⟨_,rfl,rfl⟩
     obtain ⟨eG,rfl,rfl⟩:=hcut;go_upto_region 15 with fail
     have u0:=cell_regrown ar;have u1:=cell_regrown c1;have u2:=cell_regrown c2;have u3:=cell_regrown an;have u4:=cell_regrown av;have u5:=cell_regrown ay;have u6:=cell_regrown ax;have u7:=cell_regrown az;have v0:=cell_regrown bK;have v1:=cell_regrown d1;have v2:=cell_regrown d2;have v3:=cell_regrown bL;have v4:=cell_regrown bO;have v5:=cell_regrown bT;have v6:=cell_regrown bU;have v7:=cell_regrown bV;have c6:=cell_regrown dv;have y1:=cell_regrown dI;have dp:=cell_regrown ea;have eb:=cell_regrown fo;have ef:=cell_regrown gO;have ej:=cell_regrown ha;have ek:=cell_regrown hb;have el:=cell_regrown hd;clear ar c1 c2 an av ay ax az bK d1 d2 bL bO bT bU bV dv dI ea fo gO ha hb hd;refine wp_region_quiet_below (by kernel_rfl) (by kernel_rfl) ?_
     repeat (go_big_quiet_step (first | exact oL.o _ _ | exact rp.o _ _ | exact Ey.o _ _))
     refine wpQuiet_nil ?_;intro _ i7;obtain ⟨dY,jK⟩:=i7;subst jK;have hk:=I.kY (below_regrown aA dY.d dY.os);have lW:=C hk;have b6:=C (aZ.o.trans hk);clear hk u0 u1 u2 u3 u4 u5 u6 u7 v0 v1 v2 v3 v4 v5 v6 v7 c6 y1 dp eb ef ej ek el
     generalize grow (redrawn aA dY.d) dY.os=fO at *
     go_wp2
     go_ret2
     exact lb.dL aD.o rfl b6.o
    | false=>
     have aD:=C (show R=some [n0.ab] by rw [dW.o];simp);go_enter Tryz.func96,Tryz.ntmps96
     go_upto_region 1 with fail
     rw [←dw.o,←aB.o];go_upto_region 3 with fail
     go_cut [10] (fun iS db=> ∃ eG:Bool,iS=F eG∧aA=db)
     case first=>
      go_wp2;go_meet;exact ⟨_,rfl,rfl⟩
     obtain ⟨eG,rfl,rfl⟩:=hcut;go_upto_region 15 with fail
     have u0:=cell_regrown ar;have u1:=cell_regrown c1;have u2:=cell_regrown c2;have u3:=cell_regrown an;have u4:=cell_regrown av;have u5:=cell_regrown ay;have u6:=cell_regrown ax;have u7:=cell_regrown az;have v0:=cell_regrown bK;have v1:=cell_regrown d1;have v2:=cell_regrown d2;have v3:=cell_regrown bL;have v4:=cell_regrown bO;have v5:=cell_regrown bT;have v6:=cell_regrown bU;have v7:=cell_regrown bV;have c6:=cell_regrown dv;have y1:=cell_regrown dI;have dp:=cell_regrown ea;have eb:=cell_regrown fo;have ef:=cell_regrown gO;have ej:=cell_regrown ha;have ek:=cell_regrown hb;have el:=cell_regrown hd;clear ar c1 c2 an av ay ax az bK d1 d2 bL bO bT bU bV dv dI ea fo gO ha hb hd;refine wp_region_quiet_below (by kernel_rfl) (by kernel_rfl) ?_
     repeat (go_big_quiet_step (first | exact oL.o _ _ | exact rp.o _ _ | exact Ey.o _ _))
     refine wpQuiet_nil ?_;intro _ i7;obtain ⟨dY,jK⟩:=i7;subst jK;have hk:=I.kY (below_regrown aA dY.d dY.os);have lW:=C hk;have b6:=C (aZ.o.trans hk);clear hk u0 u1 u2 u3 u4 u5 u6 u7 v0 v1 v2 v3 v4 v5 v6 v7 c6 y1 dp eb ef ej ek el
     generalize grow (redrawn aA dY.d) dY.os=fO at *
     obtain ⟨bK,d1,d2,bL,bO,bT,bU,bV⟩:=gi.o;obtain ⟨v0,v1,v2,v3,v4,v5,v6,v7⟩:=lW.o.au bK d1 d2 bL bO bT bU bV;clear bK d1 d2 bL bO bT bU bV;go_wp2
     go_ret2
     exact lb.iI (some ⟨fO.heap.size,0,none⟩) n0 aD.o rfl rfl (LW (vB.o.ah b6.o) _ (by rw [QW.o];rfl)) (b6.o.trans (I.a1 _ _)) (du.rR kS.o)
 ·have ajE:(op1==4)=false:=by simpa using h4
  have aD:=C (show R=none by
   have h5:s=false:=by
    cases H2:s with
    | false=> rfl
    | true=> exact absurd (hmo (by rw [←hs,H2])) (by rw [gp];exact h4)
   rw [aC,h5];simp)
  clear eE gw gm hs hq hmo gp aj cV aJ b1 b2 cQ hA iC s3 m9 aC;obtain ⟨U,aA,ar,c1,c2,an,av,ay,ax,az,bK,d1,d2,bL,bO,bT,bU,bV,dw,aB,aZ⟩:=nc w op1 aM aN set1 aS kc1 aq mn1 aI mode1 n1 aL op2 cg cf bj ct kc2 a8 mn2 bY bX bn bZ;go_enter Tryz.func96,Tryz.ntmps96
  go_upto_region 1 with fail
  rw [←dw.o,←aB.o];go_upto_region 3 with fail
  go_cut [10] (fun iS db=> ∃ eG:Bool,iS=F eG∧aA=db)
  case first=>
   by_cases z2:op1=2
   ·by_cases z3:op2=2
    ·subst z2;subst z3;go_wp2;go_meet;exact ⟨_,rfl,rfl⟩
    ·have PB:(op2==2)=false:=by simpa using z3
     subst z2;go_wp2;go_meet;exact ⟨_,rfl,rfl⟩
   ·have PA:(op1==2)=false:=by simpa using z2
    go_wp2;go_meet;exact ⟨_,rfl,rfl⟩
  obtain ⟨eG,rfl,rfl⟩:=hcut;go_upto_region 15 with fail
  go_quiet (fail)
  go_wp2
  go_ret2
  exact lb.dL aD.o rfl (aZ.o.drewN _)
def KW (a b:Tree):Tree:=gE 2 [a.kids.getD 0 .nil,gE 3 [im 2 (a.kids.drop 1),im 2 (b.kids.drop 1)]]
theorem Xz {op sa sc set b off kc kids mn mx mode n neg} (k:Nat) (hl:0 < kids.length):∀ ae∈df (kids.drop k).length (some (⟨b,off + k * 8,none⟩:Addr)) ++ MRe.dN (kids.drop k),ae∈(MRe.node op sa sc set (some ⟨b,off,none⟩) kc kids mn mx mode n neg).aw:=fun ae hq=> by
 simp only [MRe.aw,List.mem_append]
 rcases List.mem_append.1 hq with h | h
 ·refine .inr (.inl ?_);unfold df at h ⊢;rw [if_neg (by omega)]
  split at h
  ·simp at h
  ·simpa using h
 ·obtain ⟨y,hy,o0⟩:=MRe.tm h;exact .inr (.inr (MRe.mQ (List.mem_of_mem_drop hy) o0))
theorem aou {W:World} {src:List Nat} {lo T1 T2 T3:Nat} {p1 p2:Int} {a0 cT s2:MRe} (b8:a0.aK W) (h1:cT.aK W) (h2:s2.aK W) (c1 c2 an:Array Value) (aV:c1.toList=fX [cT,s2])
  (a6:c2.toList=fX [a0,.node p1 none 0 [] (some ⟨W.heap.size,0,none⟩) 2 [cT,s2] 0 0 0 0 false]) (bl:an.toList=(MRe.node p2 none 0 [] (some ⟨W.heap.size + 1,0,none⟩) 2 [a0,.node p1 none 0 [] (some ⟨W.heap.size,0,none⟩) 2 [cT,s2] 0 0 0 0 false] 0 0 0 0 false).row)
  (kH:lo≤W.heap.size) (ep:du lo src a0.aw) (aJ:du lo src cT.aw) (cP:du lo src s2.aw):
  gT (((W.alloc (.cells c1 T1)).alloc (.cells c2 T2)).alloc (.cells an T3)) (some ⟨W.heap.size + 2,0,none⟩) 1 [.node p2 none 0 [] (some ⟨W.heap.size + 1,0,none⟩) 2 [a0,.node p1 none 0 [] (some ⟨W.heap.size,0,none⟩) 2 [cT,s2] 0 0 0 0 false] 0 0 0 0 false]∧
  du lo src (MRe.node p2 none 0 [] (some ⟨W.heap.size + 1,0,none⟩) 2 [a0,.node p1 none 0 [] (some ⟨W.heap.size,0,none⟩) 2 [cT,s2] 0 0 0 0 false] 0 0 0 0 false).aw:=by
 have hy:=Bx (op:=p1) h1 h2 (I.a1 W (.cells c1 T1)) (heap_alloc_new W _) aV;have hx:=Bx (op:=p2) (b8.ah (I.a1 W (.cells c1 T1))) hy (I.a1 _ (.cells c2 T2)) (heap_alloc2_new W _ _) a6;refine ⟨?_,?_⟩
 ·have h:=LW (T:=T3) hx an bl;have hs:((W.alloc (.cells c1 T1)).alloc (.cells c2 T2)).heap.size=W.heap.size + 2:=by simp
  rw [hs] at h;exact h
 ·intro x hx;simp only [MRe.aw,MRe.dN,List.append_nil,List.mem_append] at hx
  rcases hx with h | h | h | h | h | h | h
  ·simp [df] at h
  ·simp [df] at h;subst h;exact .inr (by omega)
  ·exact ep x h
  ·simp [df] at h
  ·simp [df] at h;subst h;exact .inr kH
  ·exact aJ x h
  ·exact cP x h
end Go.Proofs.YtjnlkjlbejelgaaGreat
