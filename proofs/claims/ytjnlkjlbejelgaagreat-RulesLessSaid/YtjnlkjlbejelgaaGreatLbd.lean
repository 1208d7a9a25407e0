/- Part 30 of the proof. No condition: every lemma says its own. -/
import Derived.Test.YtjnlkjlbejelgaaGreatLao
namespace Go.Proofs.YtjnlkjlbejelgaaGreat
open Go.RowKit Go.Sort Go.BigFrame
open Go.Value renaming int→H,slice→M,bool→F
open Go.IntKind renaming i64→J
set_option maxRecDepth 100000
set_option maxHeartbeats 16000000
def kid0 (t:Tree):Tree:=t.kids.getD 0 .nil
def starsP (x y:Tree):Bool:=starB x && (eqB x y && !nullP (kid0 x))
def maybeP (x y:Tree):Bool:=greedyB x.op x.mn x.mx x.mode 0 1 && (starB y && (eqB (kid0 x) (kid0 y) && !nullP (kid0 x)))
def plusP (x y:Tree):Bool:=starB y && eqB x (kid0 y)
def lastT (t:Tree):Tree:=t.kids.getD (t.kids.length - 1) .nil
def tailP (x y:Tree):Bool:=x.op==2 && (y.op==2 && eqB (lastT x) (lastT y))
theorem greedyB_op {op mn mx mode a b:Int} (h:greedyB op mn mx mode a b=true):op=4:=by
 simp only [greedyB,Bool.and_eq_true,beq_iff_eq] at h;exact h.1
theorem starB_op {t:Tree} (h:starB t=true):t.op=4:=greedyB_op h
theorem rep_kid {m:MRe} {w:World} (k1:m.OK w) (f1:m.tree.WF) (h:m.tree.op=4) {op sa sc set ka kc kids mn mx mode n neg} (hm:m=.node op sa sc set ka kc kids mn mx mode n neg):
  ∃ (b off:Nat) (k:MRe),ka=some ⟨b,off,none⟩∧k∈kids∧At8 w b off k∧k.OK w∧kid0 m.tree=k.tree∧0 < kids.length∧(0:Int) < (kids.length:Int):=by
 subst hm;have hl:kids.length=1:=(wf_node f1).hone (.inl h);obtain ⟨b,off,k,h1,h2,h3,h4,h5⟩:=k1.kids.head (by omega);obtain ⟨r,hr⟩:=trees_head h3;refine ⟨b,off,k,h1,h2,h4,h5,?_,by omega,by omega⟩
 show (MRe.trees kids).getD 0 .nil=k.tree
 rw [hr];rfl
theorem stars1_any (m1 m2:MRe) (w:World) (k1:m1.OK w) (k2:m2.OK w) (f1:m1.tree.WF):
  Calls Tryz.prog 127 #[m1.val,m2.val] w fun e w'=> e=.returned (F (starsP m1.tree m2.tree))∧Keeps [] w w':=by
 have HS:=fun W=> star_any m1 W;have HE:=fun W (h:Keeps [] w W)=> equal_any m1 m2 W (k1.keep h) (k2.keep h);have h4:=fun h=> starB_op (t:=m1.tree) h;unfold starsP;obtain ⟨s,hs⟩:∃ s,s=starB m1.tree:=⟨_,rfl⟩;obtain ⟨q,hq⟩:∃ q,q=eqB m1.tree m2.tree:=⟨_,rfl⟩;simp only [←hs] at HS h4 ⊢;simp only [←hq] at HE ⊢;clear hs hq
 cases s with
 | false=>
  simp only [Bool.false_and];obtain ⟨op1,sa1,sc1,set1,ka1,kc1,kids1,mn1,mx1,mode1,n1,neg1⟩:=m1;obtain ⟨op2,sa2,sc2,set2,ka2,kc2,kids2,mn2,mx2,mode2,n2,neg2⟩:=m2;simp only [MRe.val] at HS ⊢;have HS:=gi HS;clear HE h4 k1 k2 f1;obtain ⟨B,Y,c0,c1,c2,c3,c4,c5,c6,c7,d0,d1,d2,d3,d4,d5,d6,d7,HYE,HBE,KY⟩:=pre2 w op1 sa1 sc1 set1 ka1 kc1 kids1 mn1 mx1 mode1 n1 neg1 op2 sa2 sc2 set2 ka2 kc2 kids2 mn2 mx2 mode2 n2 neg2;go_enter Tryz.func127,Tryz.ntmps127
  go_upto_region 1 with fail
  rw [←HYE.o,←HBE.o];go_wp2_with fail
  refine Calls.mono (HS.o _) ?_;rintro e w2 ⟨rfl,hk2⟩;have K2:=gi (KY.o.trans hk2);clear hk2;go_wp2;go_ret;exact ⟨rfl,K2.o⟩
 | true=>
  simp only [Bool.true_and];replace h4:=h4 rfl
  cases q with
  | false=>
   simp only [Bool.false_and];obtain ⟨op1,sa1,sc1,set1,ka1,kc1,kids1,mn1,mx1,mode1,n1,neg1⟩:=m1;obtain ⟨op2,sa2,sc2,set2,ka2,kc2,kids2,mn2,mx2,mode2,n2,neg2⟩:=m2;simp only [MRe.val] at HS HE ⊢;have HS:=gi HS;have HE:=gi HE;clear h4 k1 k2 f1;obtain ⟨B,Y,c0,c1,c2,c3,c4,c5,c6,c7,d0,d1,d2,d3,d4,d5,d6,d7,HYE,HBE,KY⟩:=pre2 w op1 sa1 sc1 set1 ka1 kc1 kids1 mn1 mx1 mode1 n1 neg1 op2 sa2 sc2 set2 ka2 kc2 kids2 mn2 mx2 mode2 n2 neg2;go_enter Tryz.func127,Tryz.ntmps127
   go_upto_region 1 with fail
   rw [←HYE.o,←HBE.o];go_wp2_with fail
   refine Calls.mono (HS.o _) ?_;rintro e w2 ⟨rfl,hk2⟩;have K2:=gi (KY.o.trans hk2);obtain ⟨u0,u1,u2,u3,u4,u5,u6,u7⟩:=hk2.c8 c0 c1 c2 c3 c4 c5 c6 c7;obtain ⟨v0,v1,v2,v3,v4,v5,v6,v7⟩:=hk2.c8 d0 d1 d2 d3 d4 d5 d6 d7;clear hk2 c0 c1 c2 c3 c4 c5 c6 c7 d0 d1 d2 d3 d4 d5 d6 d7;go_wp2_with fail
   refine Calls.mono (HE.o _ K2.o) ?_;rintro e w3 ⟨rfl,hk3⟩;have K3:=gi (K2.o.trans hk3);clear hk3;go_wp2;go_ret;exact ⟨rfl,K3.o⟩
  | true=>
   simp only [Bool.true_and];obtain ⟨m0,hm0⟩:∃ m0,m0=m1:=⟨_,rfl⟩;rw [←hm0] at k1 f1 h4 ⊢;have hm1:=hm0;obtain ⟨op1,sa1,sc1,set1,ka1,kc1,kids1,mn1,mx1,mode1,n1,neg1⟩:=m1;obtain ⟨op2,sa2,sc2,set2,ka2,kc2,kids2,mn2,mx2,mode2,n2,neg2⟩:=m2;obtain ⟨b3,o3,k3,hka3,hk3m,hk3a,hk3o,hg3,hln0,hln⟩:=rep_kid k1 f1 h4 hm1;have HNL:=fun (W:World) (h:Keeps [] w W)=> null_any k3 W (hk3o.keep h);rw [hg3];obtain ⟨z,hz⟩:∃ z,z=nullP k3.tree:=⟨_,rfl⟩;simp only [←hz] at HNL ⊢;obtain ⟨op3,sa3,sc3,set3,ka3,kc3,kids3,mn3,mx3,mode3,n3,neg3⟩:=k3;have g:=hk3a.node;obtain ⟨e0,e1,e2,e3,e4,e5,e6,e7⟩:=id g;rw [hm0];simp only [MRe.val] at HS HE HNL ⊢;have HS:=gi HS;have HE:=gi HE;have HNL:=gi HNL;obtain ⟨B,Y,c0,c1,c2,c3,c4,c5,c6,c7,d0,d1,d2,d3,d4,d5,d6,d7,HYE,HBE,KY⟩:=pre2 w op1 sa1 sc1 set1 ka1 kc1 kids1 mn1 mx1 mode1 n1 neg1 op2 sa2 sc2 set2 ka2 kc2 kids2 mn2 mx2 mode2 n2 neg2;obtain ⟨x0,x1,x2,x3,x4,x5,x6,x7⟩:=KY.o.c8 e0 e1 e2 e3 e4 e5 e6 e7;subst hka3;clear g e0 e1 e2 e3 e4 e5 e6 e7 h4 k1 k2 f1 hm1 hm0 hk3m hk3a hk3o hg3 hz;go_enter Tryz.func127,Tryz.ntmps127
   go_upto_region 1 with fail
   rw [←HYE.o,←HBE.o];go_wp2_with fail
   refine Calls.mono (HS.o _) ?_;rintro e w2 ⟨rfl,hk2⟩;have K2:=gi (KY.o.trans hk2);obtain ⟨u0,u1,u2,u3,u4,u5,u6,u7⟩:=hk2.c8 c0 c1 c2 c3 c4 c5 c6 c7;obtain ⟨v0,v1,v2,v3,v4,v5,v6,v7⟩:=hk2.c8 d0 d1 d2 d3 d4 d5 d6 d7;obtain ⟨y0,y1,y2,y3,y4,y5,y6,y7⟩:=hk2.c8 x0 x1 x2 x3 x4 x5 x6 x7;clear hk2 c0 c1 c2 c3 c4 c5 c6 c7 d0 d1 d2 d3 d4 d5 d6 d7 x0 x1 x2 x3 x4 x5 x6 x7;go_wp2_with fail
   refine Calls.mono (HE.o _ K2.o) ?_;rintro e w3 ⟨rfl,hk3⟩;have K3:=gi (K2.o.trans hk3);obtain ⟨c0,c1,c2,c3,c4,c5,c6,c7⟩:=hk3.c8 u0 u1 u2 u3 u4 u5 u6 u7;obtain ⟨x0,x1,x2,x3,x4,x5,x6,x7⟩:=hk3.c8 y0 y1 y2 y3 y4 y5 y6 y7;clear hk3 u0 u1 u2 u3 u4 u5 u6 u7 v0 v1 v2 v3 v4 v5 v6 v7 y0 y1 y2 y3 y4 y5 y6 y7;go_wp2_with fail
   refine Calls.mono (HNL.o _ K3.o) ?_;rintro e w4 ⟨rfl,hk4⟩;have K4:=gi (K3.o.trans hk4);clear hk4
   cases z with
   | true=>
    go_wp2;go_ret;exact ⟨rfl,K4.o⟩
   | false=>
    go_wp2;go_ret;exact ⟨rfl,K4.o⟩
theorem plus1_any (m1 m2:MRe) (w:World) (k1:m1.OK w) (k2:m2.OK w) (f2:m2.tree.WF):
  Calls Tryz.prog 129 #[m1.val,m2.val] w fun e w'=> e=.returned (F (plusP m1.tree m2.tree))∧Keeps [] w w':=by
 have HS:=fun W=> star_any m2 W;have h4:=fun h=> starB_op (t:=m2.tree) h;unfold plusP;obtain ⟨s,hs⟩:∃ s,s=starB m2.tree:=⟨_,rfl⟩;simp only [←hs] at HS h4 ⊢;clear hs
 cases s with
 | false=>
  simp only [Bool.false_and];obtain ⟨op1,sa1,sc1,set1,ka1,kc1,kids1,mn1,mx1,mode1,n1,neg1⟩:=m1;obtain ⟨op2,sa2,sc2,set2,ka2,kc2,kids2,mn2,mx2,mode2,n2,neg2⟩:=m2;simp only [MRe.val] at HS ⊢;clear h4 k1 k2 f2;obtain ⟨B,Y,c0,c1,c2,c3,c4,c5,c6,c7,d0,d1,d2,d3,d4,d5,d6,d7,HYE,HBE,KY⟩:=pre2 w op1 sa1 sc1 set1 ka1 kc1 kids1 mn1 mx1 mode1 n1 neg1 op2 sa2 sc2 set2 ka2 kc2 kids2 mn2 mx2 mode2 n2 neg2;have cS:∀ d os,Calls Tryz.prog 125 #[.agg #[H J op2,M sa2 set2.length sc2,M ka2 kids2.length kc2,H J mn2,H J mx2,H J mode2,H J n2,F neg2]] (grow (redrawn Y d) os) fun e w''=> e=.returned (F false)∧∃ p:Regrown,w''=grow (redrawn Y p.d) p.os:=fun d os=> Calls.regrown_of ((HS _).mono fun e w' ⟨he,hk⟩=> ⟨he,hk.below (Nat.le_refl _)⟩);have CS:=gi cS;have u0:=cell_regrown c0;have u1:=cell_regrown c1;have u2:=cell_regrown c2;have u3:=cell_regrown c3;have u4:=cell_regrown c4;have u5:=cell_regrown c5;have u6:=cell_regrown c6;have u7:=cell_regrown c7;have v0:=cell_regrown d0;have v1:=cell_regrown d1;have v2:=cell_regrown d2;have v3:=cell_regrown d3;have v4:=cell_regrown d4;have v5:=cell_regrown d5;have v6:=cell_regrown d6;have v7:=cell_regrown d7;clear cS HS c0 c1 c2 c3 c4 c5 c6 c7 d0 d1 d2 d3 d4 d5 d6 d7;go_enter Tryz.func129,Tryz.ntmps129
  go_upto_region 1 with fail
  rw [←HYE.o,←HBE.o];refine wp_region_quiet_below (by kernel_rfl) (by kernel_rfl) ?_
  repeat (go_big_quiet_step (exact CS.o _ _))
  refine wpQuiet_nil ?_;intro _ hw';obtain ⟨pq,hw''⟩:=hw';subst hw'';have hk:=Keeps.of_below (below_regrown Y pq.d pq.os);have HK:=gi (KY.o.trans hk);clear hk u0 u1 u2 u3 u4 u5 u6 u7 v0 v1 v2 v3 v4 v5 v6 v7
  generalize grow (redrawn Y pq.d) pq.os=Z at *
  go_wp2;go_ret;exact ⟨rfl,HK.o⟩
 | true=>
  simp only [Bool.true_and];replace h4:=h4 rfl;obtain ⟨m0,hm0⟩:∃ m0,m0=m2:=⟨_,rfl⟩;rw [←hm0] at k2 f2 h4 ⊢;have hm1:=hm0;obtain ⟨op2,sa2,sc2,set2,ka2,kc2,kids2,mn2,mx2,mode2,n2,neg2⟩:=m2;obtain ⟨b3,o3,k3,hka3,hk3m,hk3a,hk3o,hg3,hln0,hln⟩:=rep_kid k2 f2 h4 hm1;have HE:=fun (W:World) (h:Keeps [] w W)=> equal_any m1 k3 W (k1.keep h) (hk3o.keep h);rw [hg3];obtain ⟨q,hq⟩:∃ q,q=eqB m1.tree k3.tree:=⟨_,rfl⟩;simp only [←hq] at HE ⊢;obtain ⟨op1,sa1,sc1,set1,ka1,kc1,kids1,mn1,mx1,mode1,n1,neg1⟩:=m1;obtain ⟨op3,sa3,sc3,set3,ka3,kc3,kids3,mn3,mx3,mode3,n3,neg3⟩:=k3;have g:=hk3a.node;obtain ⟨e0,e1,e2,e3,e4,e5,e6,e7⟩:=id g;rw [hm0];simp only [MRe.val] at HS HE ⊢;obtain ⟨B,Y,c0,c1,c2,c3,c4,c5,c6,c7,d0,d1,d2,d3,d4,d5,d6,d7,HYE,HBE,KY⟩:=pre2 w op1 sa1 sc1 set1 ka1 kc1 kids1 mn1 mx1 mode1 n1 neg1 op2 sa2 sc2 set2 ka2 kc2 kids2 mn2 mx2 mode2 n2 neg2;obtain ⟨x0,x1,x2,x3,x4,x5,x6,x7⟩:=KY.o.c8 e0 e1 e2 e3 e4 e5 e6 e7;have cS:∀ d os,Calls Tryz.prog 125 #[.agg #[H J op2,M sa2 set2.length sc2,M ka2 kids2.length kc2,H J mn2,H J mx2,H J mode2,H J n2,F neg2]] (grow (redrawn Y d) os) fun e w''=> e=.returned (F true)∧∃ p:Regrown,w''=grow (redrawn Y p.d) p.os:=fun d os=> Calls.regrown_of ((HS _).mono fun e w' ⟨he,hk⟩=> ⟨he,hk.below (Nat.le_refl _)⟩);have CS:=gi cS;have cE:∀ d os,Calls Tryz.prog 117 #[.agg #[H J op1,M sa1 set1.length sc1,M ka1 kids1.length kc1,H J mn1,H J mx1,H J mode1,H J n1,F neg1],.agg #[H J op3,M sa3 set3.length sc3,M ka3 kids3.length kc3,H J mn3,H J mx3,H J mode3,H J n3,F neg3]] (grow (redrawn Y d) os) fun e w''=> e=.returned (F q)∧∃ p:Regrown,w''=grow (redrawn Y p.d) p.os:=fun d os=> Calls.regrown_of ((HE _ (KY.o.trans (Keeps.of_below (below_regrown Y d os)))).mono fun e w' ⟨he,hk⟩=> ⟨he,hk.below (Nat.le_refl _)⟩);have CE:=gi cE;have u0:=cell_regrown c0;have u1:=cell_regrown c1;have u2:=cell_regrown c2;have u3:=cell_regrown c3;have u4:=cell_regrown c4;have u5:=cell_regrown c5;have u6:=cell_regrown c6;have u7:=cell_regrown c7;have v0:=cell_regrown d0;have v1:=cell_regrown d1;have v2:=cell_regrown d2;have v3:=cell_regrown d3;have v4:=cell_regrown d4;have v5:=cell_regrown d5;have v6:=cell_regrown d6;have v7:=cell_regrown d7;have y0:=cell_regrown x0;have y1:=cell_regrown x1;have y2:=cell_regrown x2;have y3:=cell_regrown x3;have y4:=cell_regrown x4;have y5:=cell_regrown x5;have y6:=cell_regrown x6;have y7:=cell_regrown x7;subst hka3;clear cS HS cE HE c0 c1 c2 c3 c4 c5 c6 c7 d0 d1 d2 d3 d4 d5 d6 d7 x0 x1 x2 x3 x4 x5 x6 x7 g e0 e1 e2 e3 e4 e5 e6 e7 h4 k1 k2 f2 hm1 hm0 hk3m hk3a hk3o hg3 hq;go_enter Tryz.func129,Tryz.ntmps129
  go_upto_region 1 with fail
  rw [←HYE.o,←HBE.o];refine wp_region_quiet_below (by kernel_rfl) (by kernel_rfl) ?_
  repeat (go_big_quiet_step (first | exact CS.o _ _ | exact CE.o _ _))
  refine wpQuiet_nil ?_;intro _ hw';obtain ⟨pq,hw''⟩:=hw';subst hw'';have hk:=Keeps.of_below (below_regrown Y pq.d pq.os);have HK:=gi (KY.o.trans hk);clear hk u0 u1 u2 u3 u4 u5 u6 u7 v0 v1 v2 v3 v4 v5 v6 v7 y0 y1 y2 y3 y4 y5 y6 y7
  generalize grow (redrawn Y pq.d) pq.os=Z at *
  go_wp2;go_ret;exact ⟨rfl,HK.o⟩
theorem maybe1_any (m1 m2:MRe) (w:World) (k1:m1.OK w) (k2:m2.OK w) (f1:m1.tree.WF) (f2:m2.tree.WF):
  Calls Tryz.prog 128 #[m1.val,m2.val] w fun e w'=> e=.returned (F (maybeP m1.tree m2.tree))∧Keeps [] w w':=by
 have HG:=fun W=> greedy_any m1 0 1 W;have HS:=fun W=> star_any m2 W;have h4:=fun h=> starB_op (t:=m2.tree) h;have h41:=fun h=> greedyB_op (op:=m1.tree.op) (mn:=m1.tree.mn) (mx:=m1.tree.mx) (mode:=m1.tree.mode) (a:=0) (b:=1) h;unfold maybeP;obtain ⟨r,hr⟩:∃ r,r=greedyB m1.tree.op m1.tree.mn m1.tree.mx m1.tree.mode 0 1:=⟨_,rfl⟩;obtain ⟨s,hs⟩:∃ s,s=starB m2.tree:=⟨_,rfl⟩;simp only [←hr] at HG h41 ⊢;simp only [←hs] at HS h4 ⊢;clear hs hr
 cases r with
 | false=>
  simp only [Bool.false_and];obtain ⟨op1,sa1,sc1,set1,ka1,kc1,kids1,mn1,mx1,mode1,n1,neg1⟩:=m1;obtain ⟨op2,sa2,sc2,set2,ka2,kc2,kids2,mn2,mx2,mode2,n2,neg2⟩:=m2;simp only [MRe.val] at HG ⊢;clear h4 h41 k1 k2 f1 f2;obtain ⟨B,Y,c0,c1,c2,c3,c4,c5,c6,c7,d0,d1,d2,d3,d4,d5,d6,d7,HYE,HBE,KY⟩:=pre2 w op1 sa1 sc1 set1 ka1 kc1 kids1 mn1 mx1 mode1 n1 neg1 op2 sa2 sc2 set2 ka2 kc2 kids2 mn2 mx2 mode2 n2 neg2;have cS:∀ d os,Calls Tryz.prog 126 #[.agg #[H J op1,M sa1 set1.length sc1,M ka1 kids1.length kc1,H J mn1,H J mx1,H J mode1,H J n1,F neg1],H J 0,H J 1] (grow (redrawn Y d) os) fun e w''=> e=.returned (F false)∧∃ p:Regrown,w''=grow (redrawn Y p.d) p.os:=fun d os=> Calls.regrown_of ((HG _).mono fun e w' ⟨he,hk⟩=> ⟨he,hk.below (Nat.le_refl _)⟩);have CS:=gi cS;have u0:=cell_regrown c0;have u1:=cell_regrown c1;have u2:=cell_regrown c2;have u3:=cell_regrown c3;have u4:=cell_regrown c4;have u5:=cell_regrown c5;have u6:=cell_regrown c6;have u7:=cell_regrown c7;have v0:=cell_regrown d0;have v1:=cell_regrown d1;have v2:=cell_regrown d2;have v3:=cell_regrown d3;have v4:=cell_regrown d4;have v5:=cell_regrown d5;have v6:=cell_regrown d6;have v7:=cell_regrown d7;clear cS HS HG c0 c1 c2 c3 c4 c5 c6 c7 d0 d1 d2 d3 d4 d5 d6 d7;go_enter Tryz.func128,Tryz.ntmps128
  go_upto_region 1 with fail
  rw [←HYE.o,←HBE.o];refine wp_region_quiet_below (by kernel_rfl) (by kernel_rfl) ?_
  repeat (go_big_quiet_step (exact CS.o _ _))
  refine wpQuiet_nil ?_;intro _ hw';obtain ⟨pq,hw''⟩:=hw';subst hw'';have hk:=Keeps.of_below (below_regrown Y pq.d pq.os);have HK:=gi (KY.o.trans hk);clear hk u0 u1 u2 u3 u4 u5 u6 u7 v0 v1 v2 v3 v4 v5 v6 v7
  generalize grow (redrawn Y pq.d) pq.os=Z at *
  go_wp2;go_ret;exact ⟨rfl,HK.o⟩
 | true=>
  simp only [Bool.true_and];replace h41:=h41 rfl
  cases s with
  | false=>
   simp only [Bool.false_and];obtain ⟨op1,sa1,sc1,set1,ka1,kc1,kids1,mn1,mx1,mode1,n1,neg1⟩:=m1;obtain ⟨op2,sa2,sc2,set2,ka2,kc2,kids2,mn2,mx2,mode2,n2,neg2⟩:=m2;simp only [MRe.val] at HG HS ⊢;clear h4 h41 k1 k2 f1 f2;obtain ⟨B,Y,c0,c1,c2,c3,c4,c5,c6,c7,d0,d1,d2,d3,d4,d5,d6,d7,HYE,HBE,KY⟩:=pre2 w op1 sa1 sc1 set1 ka1 kc1 kids1 mn1 mx1 mode1 n1 neg1 op2 sa2 sc2 set2 ka2 kc2 kids2 mn2 mx2 mode2 n2 neg2;have cG:∀ d os,Calls Tryz.prog 126 #[.agg #[H J op1,M sa1 set1.length sc1,M ka1 kids1.length kc1,H J mn1,H J mx1,H J mode1,H J n1,F neg1],H J 0,H J 1] (grow (redrawn Y d) os) fun e w''=> e=.returned (F true)∧∃ p:Regrown,w''=grow (redrawn Y p.d) p.os:=fun d os=> Calls.regrown_of ((HG _).mono fun e w' ⟨he,hk⟩=> ⟨he,hk.below (Nat.le_refl _)⟩);have CG:=gi cG;have cS:∀ d os,Calls Tryz.prog 125 #[.agg #[H J op2,M sa2 set2.length sc2,M ka2 kids2.length kc2,H J mn2,H J mx2,H J mode2,H J n2,F neg2]] (grow (redrawn Y d) os) fun e w''=> e=.returned (F false)∧∃ p:Regrown,w''=grow (redrawn Y p.d) p.os:=fun d os=> Calls.regrown_of ((HS _).mono fun e w' ⟨he,hk⟩=> ⟨he,hk.below (Nat.le_refl _)⟩);have CS:=gi cS;have u0:=cell_regrown c0;have u1:=cell_regrown c1;have u2:=cell_regrown c2;have u3:=cell_regrown c3;have u4:=cell_regrown c4;have u5:=cell_regrown c5;have u6:=cell_regrown c6;have u7:=cell_regrown c7;have v0:=cell_regrown d0;have v1:=cell_regrown d1;have v2:=cell_regrown d2;have v3:=cell_regrown d3;have v4:=cell_regrown d4;have v5:=cell_regrown d5;have v6:=cell_regrown d6;have v7:=cell_regrown d7;clear cS cG HS HG c0 c1 c2 c3 c4 c5 c6 c7 d0 d1 d2 d3 d4 d5 d6 d7;go_enter Tryz.func128,Tryz.ntmps128
   go_upto_region 1 with fail
   rw [←HYE.o,←HBE.o];refine wp_region_quiet_below (by kernel_rfl) (by kernel_rfl) ?_
   repeat (go_big_quiet_step (first | exact CG.o _ _ | exact CS.o _ _))
   refine wpQuiet_nil ?_;intro _ hw';obtain ⟨pq,hw''⟩:=hw';subst hw'';have hk:=Keeps.of_below (below_regrown Y pq.d pq.os);have HK:=gi (KY.o.trans hk);clear hk u0 u1 u2 u3 u4 u5 u6 u7 v0 v1 v2 v3 v4 v5 v6 v7
   generalize grow (redrawn Y pq.d) pq.os=Z at *
   go_wp2;go_ret;exact ⟨rfl,HK.o⟩
  | true=>
   simp only [Bool.true_and];replace h4:=h4 rfl;obtain ⟨m10,hm10⟩:∃ m10,m10=m1:=⟨_,rfl⟩;rw [←hm10] at k1 f1 h41 ⊢;have hm11:=hm10;obtain ⟨m0,hm0⟩:∃ m0,m0=m2:=⟨_,rfl⟩;rw [←hm0] at k2 f2 h4 ⊢;have hm1:=hm0;obtain ⟨op1,sa1,sc1,set1,ka1,kc1,kids1,mn1,mx1,mode1,n1,neg1⟩:=m1;obtain ⟨op2,sa2,sc2,set2,ka2,kc2,kids2,mn2,mx2,mode2,n2,neg2⟩:=m2;obtain ⟨b3,o3,k3,hka3,hk3m,hk3a,hk3o,hg3,hln0,hln⟩:=rep_kid k2 f2 h4 hm1;obtain ⟨b5,o5,k5,hka5,hk5m,hk5a,hk5o,hg5,hlm0,hlm⟩:=rep_kid k1 f1 h41 hm11;have HE:=fun (W:World) (h:Keeps [] w W)=> equal_any k5 k3 W (hk5o.keep h) (hk3o.keep h);have HN:=fun (W:World) (h:Keeps [] w W)=> null_any k5 W (hk5o.keep h);rw [hg3,hg5];obtain ⟨q,hq⟩:∃ q,q=eqB k5.tree k3.tree:=⟨_,rfl⟩;obtain ⟨z,hz⟩:∃ z,z=nullP k5.tree:=⟨_,rfl⟩;simp only [←hq] at HE ⊢;simp only [←hz] at HN ⊢;obtain ⟨op3,sa3,sc3,set3,ka3,kc3,kids3,mn3,mx3,mode3,n3,neg3⟩:=k3;obtain ⟨op5,sa5,sc5,set5,ka5,kc5,kids5,mn5,mx5,mode5,n5,neg5⟩:=k5;have g:=hk3a.node;obtain ⟨e0,e1,e2,e3,e4,e5,e6,e7⟩:=id g;clear g;have g:=hk5a.node;obtain ⟨f0,f1,f2,f3,f4,f5,f6,f7⟩:=id g;rw [hm0,hm10];simp only [MRe.val] at HG HS HE HN ⊢;obtain ⟨B,Y,c0,c1,c2,c3,c4,c5,c6,c7,d0,d1,d2,d3,d4,d5,d6,d7,HYE,HBE,KY⟩:=pre2 w op1 sa1 sc1 set1 ka1 kc1 kids1 mn1 mx1 mode1 n1 neg1 op2 sa2 sc2 set2 ka2 kc2 kids2 mn2 mx2 mode2 n2 neg2;obtain ⟨x0,x1,x2,x3,x4,x5,x6,x7⟩:=KY.o.c8 e0 e1 e2 e3 e4 e5 e6 e7;obtain ⟨s0,s1,s2,s3,s4,s5,s6,s7⟩:=KY.o.c8 f0 f1 f2 f3 f4 f5 f6 f7;have cG:∀ d os,Calls Tryz.prog 126 #[.agg #[H J op1,M sa1 set1.length sc1,M ka1 kids1.length kc1,H J mn1,H J mx1,H J mode1,H J n1,F neg1],H J 0,H J 1] (grow (redrawn Y d) os) fun e w''=> e=.returned (F true)∧∃ p:Regrown,w''=grow (redrawn Y p.d) p.os:=fun d os=> Calls.regrown_of ((HG _).mono fun e w' ⟨he,hk⟩=> ⟨he,hk.below (Nat.le_refl _)⟩);have CG:=gi cG;have cS:∀ d os,Calls Tryz.prog 125 #[.agg #[H J op2,M sa2 set2.length sc2,M ka2 kids2.length kc2,H J mn2,H J mx2,H J mode2,H J n2,F neg2]] (grow (redrawn Y d) os) fun e w''=> e=.returned (F true)∧∃ p:Regrown,w''=grow (redrawn Y p.d) p.os:=fun d os=> Calls.regrown_of ((HS _).mono fun e w' ⟨he,hk⟩=> ⟨he,hk.below (Nat.le_refl _)⟩);have CS:=gi cS;have cE:∀ d os,Calls Tryz.prog 117 #[.agg #[H J op5,M sa5 set5.length sc5,M ka5 kids5.length kc5,H J mn5,H J mx5,H J mode5,H J n5,F neg5],.agg #[H J op3,M sa3 set3.length sc3,M ka3 kids3.length kc3,H J mn3,H J mx3,H J mode3,H J n3,F neg3]] (grow (redrawn Y d) os) fun e w''=> e=.returned (F q)∧∃ p:Regrown,w''=grow (redrawn Y p.d) p.os:=fun d os=> Calls.regrown_of ((HE _ (KY.o.trans (Keeps.of_below (below_regrown Y d os)))).mono fun e w' ⟨he,hk⟩=> ⟨he,hk.below (Nat.le_refl _)⟩);have CE:=gi cE;have cN:∀ d os,Calls Tryz.prog 35 #[.agg #[H J op5,M sa5 set5.length sc5,M ka5 kids5.length kc5,H J mn5,H J mx5,H J mode5,H J n5,F neg5]] (grow (redrawn Y d) os) fun e w''=> e=.returned (F z)∧∃ p:Regrown,w''=grow (redrawn Y p.d) p.os:=fun d os=> Calls.regrown_of ((HN _ (KY.o.trans (Keeps.of_below (below_regrown Y d os)))).mono fun e w' ⟨he,hk⟩=> ⟨he,hk.below (Nat.le_refl _)⟩)
   have CN:=gi cN;have u0:=cell_regrown c0;have u1:=cell_regrown c1;have u2:=cell_regrown c2;have u3:=cell_regrown c3;have u4:=cell_regrown c4;have u5:=cell_regrown c5;have u6:=cell_regrown c6;have u7:=cell_regrown c7;have v0:=cell_regrown d0;have v1:=cell_regrown d1;have v2:=cell_regrown d2;have v3:=cell_regrown d3;have v4:=cell_regrown d4;have v5:=cell_regrown d5;have v6:=cell_regrown d6;have v7:=cell_regrown d7;have y0:=cell_regrown x0;have y1:=cell_regrown x1;have y2:=cell_regrown x2;have y3:=cell_regrown x3;have y4:=cell_regrown x4;have y5:=cell_regrown x5;have y6:=cell_regrown x6;have y7:=cell_regrown x7;have t0:=cell_regrown s0;have t1:=cell_regrown s1;have t2:=cell_regrown s2;have t3:=cell_regrown s3;have t4:=cell_regrown s4;have t5:=cell_regrown s5;have t6:=cell_regrown s6;have t7:=cell_regrown s7;subst hka3;subst hka5;clear cS HS cE HE cG HG cN HN c0 c1 c2 c3 c4 c5 c6 c7 d0 d1 d2 d3 d4 d5 d6 d7 x0 x1 x2 x3 x4 x5 x6 x7 s0 s1 s2 s3 s4 s5 s6 s7 g e0 e1 e2 e3 e4 e5 e6 e7 f0 f1 f2 f3 f4 f5 f6 f7 h4 h41 k1 k2 hm1 hm0 hm10 hm11 hk3m hk3a hk3o hg3 hk5m hk5a hk5o hg5 hq hz
   cases q with
   | false=>
    simp only [Bool.false_and];go_enter Tryz.func128,Tryz.ntmps128
    go_upto_region 1 with fail
    rw [←HYE.o,←HBE.o];refine wp_region_quiet_below (by kernel_rfl) (by kernel_rfl) ?_
    repeat (go_big_quiet_step (first | exact CG.o _ _ | exact CS.o _ _ | exact CE.o _ _))
    refine wpQuiet_nil ?_;intro _ hw';obtain ⟨pq,hw''⟩:=hw';subst hw'';have hk:=Keeps.of_below (below_regrown Y pq.d pq.os);have HK:=gi (KY.o.trans hk);clear hk u0 u1 u2 u3 u4 u5 u6 u7 v0 v1 v2 v3 v4 v5 v6 v7 y0 y1 y2 y3 y4 y5 y6 y7 t0 t1 t2 t3 t4 t5 t6 t7
    generalize grow (redrawn Y pq.d) pq.os=Z at *
    go_wp2;go_ret;exact ⟨rfl,HK.o⟩
   | true=>
    simp only [Bool.true_and];have hnot:∀ (x:Bool) (w:World),(Op.unary .not (F x)).run Tryz.prog w=.ok (F (!x)) w:=fun _ _=> rfl;go_enter Tryz.func128,Tryz.ntmps128
    go_upto_region 1 with fail
    rw [←HYE.o,←HBE.o];refine wp_region_quiet_below (by kernel_rfl) (by kernel_rfl) ?_
    repeat (go_big_quiet_step (first | exact CG.o _ _ | exact CS.o _ _ | exact CE.o _ _ | exact CN.o _ _))
    refine wpQuiet_nil ?_;intro _ hw';obtain ⟨pq,hw''⟩:=hw';subst hw'';have hk:=Keeps.of_below (below_regrown Y pq.d pq.os);have HK:=gi (KY.o.trans hk);clear hk u0 u1 u2 u3 u4 u5 u6 u7 v0 v1 v2 v3 v4 v5 v6 v7 y0 y1 y2 y3 y4 y5 y6 y7 t0 t1 t2 t3 t4 t5 t6 t7
    generalize grow (redrawn Y pq.d) pq.os=Z at *
    go_wp2;go_ret;exact ⟨rfl,HK.o⟩
theorem last_kid {w:World} {op sa sc set ka kc kids mn mx mode n neg} (k1:MRe.OK w (.node op sa sc set ka kc kids mn mx mode n neg)) (h:2≤kids.length):
  ∃ (b off l:Nat) (k:MRe),ka=some ⟨b,off,none⟩∧kids.length=l + 1∧k∈kids∧At8 w b (off + l * 8) k∧k.OK w∧lastT (MRe.tree (.node op sa sc set ka kc kids mn mx mode n neg))=k.tree∧(0:Int)≤(l:Int)∧(l:Int) < (kids.length:Int)∧l < kids.length∧IntKind.i64.wrap ((kids.length:Int) - 1)=(l:Int)∧l < kc∧kids.take l ++ [k]=kids:=by
 obtain ⟨l,hl⟩:∃ l,kids.length=l + 1:=⟨kids.length - 1,by omega⟩;obtain ⟨b,off,h1,hb,hx⟩:=k1.nodes.kid (by omega);have hcap:=k1.nodes.cap;have hle:=k1.nodes.le;unfold maxLen at hcap;have hlt:l < kids.length:=by omega
 refine ⟨b,off,l,kids[l],h1,hl,List.getElem_mem _,hx l hlt,k1.kid (List.getElem_mem _),?_,by omega,by omega,hlt,?_,by omega,?_⟩
 ·show (MRe.trees kids).getD ((MRe.trees kids).length - 1) .nil=_
  rw [MRe.trees_length,hl,Nat.add_sub_cancel,List.getD_eq_getElem?_getD,List.getElem?_eq_getElem (by rw [MRe.trees_length];omega),Option.getD_some,trees_getElem]
 ·rw [IntWalk.i64_in _ (by omega)];omega
 ·have h5:=List.take_append_getElem hlt;rw [h5,List.take_of_length_le (by omega)]
theorem tail1_any (m1 m2:MRe) (w:World) (k1:m1.OK w) (k2:m2.OK w) (f1:m1.tree.WF) (f2:m2.tree.WF):
  Calls Tryz.prog 122 #[m1.val,m2.val] w fun e w'=> e=.returned (F (tailP m1.tree m2.tree))∧Keeps [] w w':=by
 obtain ⟨op1,sa1,sc1,set1,ka1,kc1,kids1,mn1,mx1,mode1,n1,neg1⟩:=m1;obtain ⟨op2,sa2,sc2,set2,ka2,kc2,kids2,mn2,mx2,mode2,n2,neg2⟩:=m2;have hP:tailP (MRe.tree (.node op1 sa1 sc1 set1 ka1 kc1 kids1 mn1 mx1 mode1 n1 neg1)) (MRe.tree (.node op2 sa2 sc2 set2 ka2 kc2 kids2 mn2 mx2 mode2 n2 neg2))=(op1==2 && (op2==2 && eqB (lastT (MRe.tree (.node op1 sa1 sc1 set1 ka1 kc1 kids1 mn1 mx1 mode1 n1 neg1))) (lastT (MRe.tree (.node op2 sa2 sc2 set2 ka2 kc2 kids2 mn2 mx2 mode2 n2 neg2))))):=rfl;rw [hP];clear hP;have n1':=wf_node f1;have n2':=wf_node f2;simp only [MRe.val]
 by_cases h1:op1=2
 ·by_cases h2:op2=2
  ·obtain ⟨b1,o1,l1,a,hka1,hl1,ha,haa,hao,hag,i1,i2,i3,i4,_,_⟩:=last_kid k1 (n1'.htwo (.inl h1));obtain ⟨b2,o2,l2,b,hka2,hl2,hb,hba,hbo,hbg,j1,j2,j3,j4,_,_⟩:=last_kid k2 (n2'.htwo (.inl h2));rw [hag,hbg];have HE:=fun W (h:Keeps [] w W)=> equal_any a b W (hao.keep h) (hbo.keep h);have hv:∀ x,(op1==2 && (op2==2 && x))=x:=fun x=> by simp [h1,h2]
   rw [hv];clear hv;obtain ⟨q,hq⟩:∃ q,q=eqB a.tree b.tree:=⟨_,rfl⟩;simp only [←hq] at HE ⊢;obtain ⟨op3,sa3,sc3,set3,ka3,kc3,kids3,mn3,mx3,mode3,n3,neg3⟩:=a;obtain ⟨op4,sa4,sc4,set4,ka4,kc4,kids4,mn4,mx4,mode4,n4,neg4⟩:=b;have g:=haa.node;obtain ⟨e0,e1,e2,e3,e4,e5,e6,e7⟩:=id g;clear g;have g:=hba.node;obtain ⟨f0,f1,f2,f3,f4,f5,f6,f7⟩:=id g;simp only [MRe.val] at HE;obtain ⟨B,Y,c0,c1,c2,c3,c4,c5,c6,c7,d0,d1,d2,d3,d4,d5,d6,d7,HYE,HBE,KY⟩:=pre2 w op1 sa1 sc1 set1 ka1 kc1 kids1 mn1 mx1 mode1 n1 neg1 op2 sa2 sc2 set2 ka2 kc2 kids2 mn2 mx2 mode2 n2 neg2;obtain ⟨x0,x1,x2,x3,x4,x5,x6,x7⟩:=KY.o.c8 e0 e1 e2 e3 e4 e5 e6 e7;obtain ⟨s0,s1,s2,s3,s4,s5,s6,s7⟩:=KY.o.c8 f0 f1 f2 f3 f4 f5 f6 f7;have cE:∀ d os,Calls Tryz.prog 117 #[.agg #[H J op3,M sa3 set3.length sc3,M ka3 kids3.length kc3,H J mn3,H J mx3,H J mode3,H J n3,F neg3],.agg #[H J op4,M sa4 set4.length sc4,M ka4 kids4.length kc4,H J mn4,H J mx4,H J mode4,H J n4,F neg4]] (grow (redrawn Y d) os) fun e w''=> e=.returned (F q)∧∃ p:Regrown,w''=grow (redrawn Y p.d) p.os:=fun d os=> Calls.regrown_of ((HE _ (KY.o.trans (Keeps.of_below (below_regrown Y d os)))).mono fun e w' ⟨he,hk⟩=> ⟨he,hk.below (Nat.le_refl _)⟩);have CE:=gi cE;have u0:=cell_regrown c0;have u2:=cell_regrown c2;have v0:=cell_regrown d0;have v2:=cell_regrown d2;have y0:=cell_regrown x0;have y1:=cell_regrown x1;have y2:=cell_regrown x2;have y3:=cell_regrown x3;have y4:=cell_regrown x4;have y5:=cell_regrown x5;have y6:=cell_regrown x6;have y7:=cell_regrown x7;have t0:=cell_regrown s0;have t1:=cell_regrown s1;have t2:=cell_regrown s2;have t3:=cell_regrown s3;have t4:=cell_regrown s4;have t5:=cell_regrown s5;have t6:=cell_regrown s6;have t7:=cell_regrown s7;subst hka1;subst hka2;subst h1;subst h2;clear cE HE c0 c1 c2 c3 c4 c5 c6 c7 d0 d1 d2 d3 d4 d5 d6 d7 x0 x1 x2 x3 x4 x5 x6 x7 s0 s1 s2 s3 s4 s5 s6 s7 g e0 e1 e2 e3 e4 e5 e6 e7 f0 f1 f2 f3 f4 f5 f6 f7 k1 k2 n1' n2' ha haa hao hag hb hba hbo hbg hq hl1 hl2;go_enter Tryz.func122,Tryz.ntmps122
   go_upto_region 1 with fail
   rw [←HYE.o,←HBE.o];refine wp_region_quiet_below (by kernel_rfl) (by kernel_rfl) ?_
   repeat (go_big_quiet_step (exact CE.o _ _))
   refine wpQuiet_nil ?_;intro _ hw';obtain ⟨pq,hw''⟩:=hw';subst hw'';have hk:=Keeps.of_below (below_regrown Y pq.d pq.os);have HK:=gi (KY.o.trans hk);clear hk u0 u2 v0 v2 y0 y1 y2 y3 y4 y5 y6 y7 t0 t1 t2 t3 t4 t5 t6 t7
   generalize grow (redrawn Y pq.d) pq.os=Z at *
   go_wp2;go_ret;exact ⟨rfl,HK.o⟩
  ·have hv:(op1==2 && (op2==2 && eqB (lastT (MRe.tree (.node op1 sa1 sc1 set1 ka1 kc1 kids1 mn1 mx1 mode1 n1 neg1))) (lastT (MRe.tree (.node op2 sa2 sc2 set2 ka2 kc2 kids2 mn2 mx2 mode2 n2 neg2)))))=false:=by simp [h2]
   rw [hv];have h2b:(op2==2)=false:=by simpa using h2
   clear hv n1' n2' k1 k2 f1 f2;obtain ⟨B,Y,c0,c1,c2,c3,c4,c5,c6,c7,d0,d1,d2,d3,d4,d5,d6,d7,HYE,HBE,KY⟩:=pre2 w op1 sa1 sc1 set1 ka1 kc1 kids1 mn1 mx1 mode1 n1 neg1 op2 sa2 sc2 set2 ka2 kc2 kids2 mn2 mx2 mode2 n2 neg2;subst h1;go_enter Tryz.func122,Tryz.ntmps122
   go_upto_region 1 with fail
   rw [←HYE.o,←HBE.o]
   go_quiet (fail)
   go_wp2;go_ret;exact ⟨rfl,KY.o.drewN _⟩
 ·have hv:(op1==2 && (op2==2 && eqB (lastT (MRe.tree (.node op1 sa1 sc1 set1 ka1 kc1 kids1 mn1 mx1 mode1 n1 neg1))) (lastT (MRe.tree (.node op2 sa2 sc2 set2 ka2 kc2 kids2 mn2 mx2 mode2 n2 neg2)))))=false:=by simp [h1]
  rw [hv];have h1b:(op1==2)=false:=by simpa using h1
  clear hv n1' n2' k1 k2 f1 f2;obtain ⟨B,Y,c0,c1,c2,c3,c4,c5,c6,c7,d0,d1,d2,d3,d4,d5,d6,d7,HYE,HBE,KY⟩:=pre2 w op1 sa1 sc1 set1 ka1 kc1 kids1 mn1 mx1 mode1 n1 neg1 op2 sa2 sc2 set2 ka2 kc2 kids2 mn2 mx2 mode2 n2 neg2;go_enter Tryz.func122,Tryz.ntmps122
  go_upto_region 1 with fail
  rw [←HYE.o,←HBE.o]
  go_quiet (fail)
  go_wp2;go_ret;exact ⟨rfl,KY.o.drewN _⟩
end Go.Proofs.YtjnlkjlbejelgaaGreat
