/- Part 27 of the proof. No condition: every lemma says its own. -/
import Derived.Test.YtjnlkjlbejelgaaGreatQay
import Derived.Test.YtjnlkjlbejelgaaGreatQao
import Derived.Test.YtjnlkjlbejelgaaGreatQar
namespace Go.Proofs.YtjnlkjlbejelgaaGreat
open Go.RowKit Go.Sort Go.BigFrame
open Go.Value renaming int→H,slice→M,bool→F
open Go.IntKind renaming i64→J
open Go.RowKit
set_option maxRecDepth 100000
set_option maxHeartbeats 16000000
theorem rpair9_any (m1 m2:MRe) (w:World) (k1:m1.OK w) (k2:m2.OK w) (f1:m1.tree.WF) (b1:m1.tree.bulk≤100000) (b2:m2.tree.bulk≤100000):
  Calls Tryz.prog 96 #[H J 9,m1.val,m2.val] w (PairRes w (m1.blocks ++ m2.blocks) (if starsP m1.tree m2.tree=true then some [m2.tree] else none)):=by
 obtain ⟨R,hR0⟩:∃ R,R=if starsP m1.tree m2.tree=true then some [m2.tree] else none:=⟨_,rfl⟩;rw [←hR0];have hst:=fun (k:MRe) (hk:kid0 m1.tree=k.tree) (W:World) (h:Keeps [] w W) (ko:k.OK w) (kb:k.tree.bulk≤100000)=> rstar_any m1 k W (k1.keep h) (ko.keep h) f1 b1 kb;have HE:=fun (W:World) (h:Keeps [] w W)=> requal_any m1 m2 W (k1.keep h) (k2.keep h) b1 b2;have hP:starsP m1.tree m2.tree=(starB m1.tree && (eqB m1.tree m2.tree && !nullP (kid0 m1.tree))):=rfl;rw [hP] at hR0;obtain ⟨m0,hm0⟩:∃ m0,m0=m1:=⟨_,rfl⟩;obtain ⟨n0,hn0⟩:∃ n0,n0=m2:=⟨_,rfl⟩;rw [←hm0] at k1 f1 b1 hR0;rw [←hn0] at k2 b2 hR0;have hm1:=hm0;have N0:=gi hn0;have hmo:=fun h=> starB_op (t:=m0.tree) h;obtain ⟨s,hs⟩:∃ s,s=starB m0.tree:=⟨_,rfl⟩;obtain ⟨q,hq⟩:∃ q,q=eqB m0.tree n0.tree:=⟨_,rfl⟩;rw [←hs,←hq] at hR0;rw [←hm0,←hn0] at HE;rw [←hm0] at hst;simp only [←hq] at HE;obtain ⟨op1,sa1,sc1,set1,ka1,kc1,kids1,mn1,mx1,mode1,n1,neg1⟩:=m1;obtain ⟨op2,sa2,sc2,set2,ka2,kc2,kids2,mn2,mx2,mode2,n2,neg2⟩:=m2;have hso:m0.tree.op=op1:=by rw [hm0];rfl
 have hv1:m0.val=.agg #[H J op1,M sa1 set1.length sc1,M ka1 kids1.length kc1,H J mn1,H J mx1,H J mode1,H J n1,F neg1]:=by rw [hm0];rfl
 have hv2:n0.val=.agg #[H J op2,M sa2 set2.length sc2,M ka2 kids2.length kc2,H J mn2,H J mx2,H J mode2,H J n2,F neg2]:=by rw [hn0];rfl
 simp only [hv1,hv2] at HE hst;have HBL:=gi (show ∀ x∈n0.blocks,x∈(MRe.node op1 sa1 sc1 set1 ka1 kc1 kids1 mn1 mx1 mode1 n1 neg1).blocks ++ (MRe.node op2 sa2 sc2 set2 ka2 kc2 kids2 mn2 mx2 mode2 n2 neg2).blocks by rw [hn0];exact fun x hx=> List.mem_append_right _ hx);have HNO:=gi k2;simp only [MRe.val]
 by_cases h4:op1=4
 ·obtain ⟨b3,o3,k3,hka3,hk3m,hk3a,hk3o,hg3,hln0,hln⟩:=rep_kid k1 f1 (by rw [hso];exact h4) hm1;have b3':k3.tree.bulk≤100000:=by rw [hm0] at b1;exact (kids_bulk b1).2.2 _ hk3m
  have w3':=(by rw [hm0] at f1;exact wf_kid f1 hk3m:k3.tree.WF);have HS:=fun (W:World) (h:Keeps [] w W)=> hst k3 hg3 W h hk3o b3';have HN:=fun (W:World) (h:Keeps [] w W)=> rnull_any k3 W (hk3o.keep h) w3'.q;have hself:(starB m0.tree && eqB (kid0 m0.tree) k3.tree)=s:=by rw [hg3,(eqB_iff _ _).2 rfl,←hs];simp
  rw [hself] at HS;rw [hg3] at hR0;obtain ⟨z,hz⟩:∃ z,z=nullP k3.tree:=⟨_,rfl⟩;rw [←hz] at hR0;simp only [←hz] at HN;obtain ⟨op3,sa3,sc3,set3,ka3,kc3,kids3,mn3,mx3,mode3,n3,neg3⟩:=k3;have g:=hk3a.node;obtain ⟨e0,e1,e2,e3,e4,e5,e6,e7⟩:=id g;simp only [MRe.val] at HS HN;obtain ⟨B,Y,c0,c1,c2,c3,c4,c5,c6,c7,d0,d1,d2,d3,d4,d5,d6,d7,HYE,HBE,KY⟩:=pre2 w op1 sa1 sc1 set1 ka1 kc1 kids1 mn1 mx1 mode1 n1 neg1 op2 sa2 sc2 set2 ka2 kc2 kids2 mn2 mx2 mode2 n2 neg2;have HD:=gi (show Y.cell? ⟨(B+1),0,none⟩=some (H J op2)∧Y.cell? ⟨(B+1),1,none⟩=some (M sa2 set2.length sc2)∧Y.cell? ⟨(B+1),2,none⟩=some (M ka2 kids2.length kc2)∧Y.cell? ⟨(B+1),3,none⟩=some (H J mn2)∧Y.cell? ⟨(B+1),4,none⟩=some (H J mx2)∧Y.cell? ⟨(B+1),5,none⟩=some (H J mode2)∧Y.cell? ⟨(B+1),6,none⟩=some (H J n2)∧Y.cell? ⟨(B+1),7,none⟩=some (F neg2) from ⟨d0,d1,d2,d3,d4,d5,d6,d7⟩);obtain ⟨x0,x1,x2,x3,x4,x5,x6,x7⟩:=KY.o.c8 e0 e1 e2 e3 e4 e5 e6 e7;have cS:∀ d os,Calls Tryz.prog 133 #[.agg #[H J op1,M sa1 set1.length sc1,M ka1 kids1.length kc1,H J mn1,H J mx1,H J mode1,H J n1,F neg1],.agg #[H J op3,M sa3 set3.length sc3,M ka3 kids3.length kc3,H J mn3,H J mx3,H J mode3,H J n3,F neg3]] (grow (redrawn Y d) os) fun e w''=> e=.returned (F s)∧∃ p:Regrown,w''=grow (redrawn Y p.d) p.os:=fun d os=> Calls.regrown_of ((HS _ (KY.o.trans (Keeps.of_below (below_regrown Y d os)))).mono fun e w' ⟨he,hk⟩=> ⟨he,hk.below (Nat.le_refl _)⟩);have CS:=gi cS;have cE:∀ d os,Calls Tryz.prog 95 #[.agg #[H J op1,M sa1 set1.length sc1,M ka1 kids1.length kc1,H J mn1,H J mx1,H J mode1,H J n1,F neg1],.agg #[H J op2,M sa2 set2.length sc2,M ka2 kids2.length kc2,H J mn2,H J mx2,H J mode2,H J n2,F neg2]] (grow (redrawn Y d) os) fun e w''=> e=.returned (F q)∧∃ p:Regrown,w''=grow (redrawn Y p.d) p.os:=fun d os=> Calls.regrown_of ((HE _ (KY.o.trans (Keeps.of_below (below_regrown Y d os)))).mono fun e w' ⟨he,hk⟩=> ⟨he,hk.below (Nat.le_refl _)⟩);have CE:=gi cE;have cN:∀ d os,Calls Tryz.prog 52 #[.agg #[H J op3,M sa3 set3.length sc3,M ka3 kids3.length kc3,H J mn3,H J mx3,H J mode3,H J n3,F neg3]] (grow (redrawn Y d) os) fun e w''=> e=.returned (F z)∧∃ p:Regrown,w''=grow (redrawn Y p.d) p.os:=fun d os=> Calls.regrown_of ((HN _ (KY.o.trans (Keeps.of_below (below_regrown Y d os)))).mono fun e w' ⟨he,hk⟩=> ⟨he,hk.below (Nat.le_refl _)⟩);have CN:=gi cN;have HR0:=gi hR0;subst hka3;subst h4;clear cS cE cN HS HE HN hst hP hs hq hmo hso hself hz e0 e1 e2 e3 e4 e5 e6 e7 g k1 k2 f1 b1 b2 hm0 hm1 hn0 hv1 hv2 hk3m hk3a hk3o hg3 b3' w3' hR0
  cases s with
  | false=>
   have HR:=gi (show R=none by rw [HR0.o];simp);go_enter Tryz.func96,Tryz.ntmps96
   go_upto_region 1 with fail
   rw [←HYE.o,←HBE.o];go_upto_region 3 with fail
   go_cut [10] (fun s10 wx=> ∃ cc:Bool,s10=F cc∧Y=wx)
   case first=>
    go_wp2;go_meet;exact ⟨_,rfl,rfl⟩
   obtain ⟨cc,rfl,rfl⟩:=hcut;go_upto_region 15 with fail
   have u0:=cell_regrown c0;have u1:=cell_regrown c1;have u2:=cell_regrown c2;have u3:=cell_regrown c3;have u4:=cell_regrown c4;have u5:=cell_regrown c5;have u6:=cell_regrown c6;have u7:=cell_regrown c7;have v0:=cell_regrown d0;have v1:=cell_regrown d1;have v2:=cell_regrown d2;have v3:=cell_regrown d3;have v4:=cell_regrown d4;have v5:=cell_regrown d5;have v6:=cell_regrown d6;have v7:=cell_regrown d7;have y0:=cell_regrown x0;have y1:=cell_regrown x1;have y2:=cell_regrown x2;have y3:=cell_regrown x3;have y4:=cell_regrown x4;have y5:=cell_regrown x5;have y6:=cell_regrown x6;have y7:=cell_regrown x7;clear c0 c1 c2 c3 c4 c5 c6 c7 d0 d1 d2 d3 d4 d5 d6 d7 x0 x1 x2 x3 x4 x5 x6 x7;refine wp_region_quiet_below (by kernel_rfl) (by kernel_rfl) ?_
   repeat (go_big_quiet_step (exact CS.o _ _))
   refine wpQuiet_nil ?_;intro _ hw';obtain ⟨pq,hw''⟩:=hw';subst hw'';have hk:=Keeps.of_below (below_regrown Y pq.d pq.os);have HKZ:=gi hk;have HK:=gi (KY.o.trans hk);clear hk u0 u1 u2 u3 u4 u5 u6 u7 v0 v1 v2 v3 v4 v5 v6 v7 y0 y1 y2 y3 y4 y5 y6 y7
   generalize grow (redrawn Y pq.d) pq.os=Z at *
   go_wp2
   go_ret2
   exact PairRes.of_none HR.o rfl HK.o
  | true=>
   cases q with
   | false=>
    have HR:=gi (show R=none by rw [HR0.o];simp);go_enter Tryz.func96,Tryz.ntmps96
    go_upto_region 1 with fail
    rw [←HYE.o,←HBE.o];go_upto_region 3 with fail
    go_cut [10] (fun s10 wx=> ∃ cc:Bool,s10=F cc∧Y=wx)
    case first=>
     go_wp2;go_meet;exact ⟨_,rfl,rfl⟩
    obtain ⟨cc,rfl,rfl⟩:=hcut;go_upto_region 15 with fail
    have u0:=cell_regrown c0;have u1:=cell_regrown c1;have u2:=cell_regrown c2;have u3:=cell_regrown c3;have u4:=cell_regrown c4;have u5:=cell_regrown c5;have u6:=cell_regrown c6;have u7:=cell_regrown c7;have v0:=cell_regrown d0;have v1:=cell_regrown d1;have v2:=cell_regrown d2;have v3:=cell_regrown d3;have v4:=cell_regrown d4;have v5:=cell_regrown d5;have v6:=cell_regrown d6;have v7:=cell_regrown d7;have y0:=cell_regrown x0;have y1:=cell_regrown x1;have y2:=cell_regrown x2;have y3:=cell_regrown x3;have y4:=cell_regrown x4;have y5:=cell_regrown x5;have y6:=cell_regrown x6;have y7:=cell_regrown x7;clear c0 c1 c2 c3 c4 c5 c6 c7 d0 d1 d2 d3 d4 d5 d6 d7 x0 x1 x2 x3 x4 x5 x6 x7;refine wp_region_quiet_below (by kernel_rfl) (by kernel_rfl) ?_
    repeat (go_big_quiet_step (first | exact CS.o _ _ | exact CE.o _ _))
    refine wpQuiet_nil ?_;intro _ hw';obtain ⟨pq,hw''⟩:=hw';subst hw'';have hk:=Keeps.of_below (below_regrown Y pq.d pq.os);have HKZ:=gi hk;have HK:=gi (KY.o.trans hk);clear hk u0 u1 u2 u3 u4 u5 u6 u7 v0 v1 v2 v3 v4 v5 v6 v7 y0 y1 y2 y3 y4 y5 y6 y7
    generalize grow (redrawn Y pq.d) pq.os=Z at *
    go_wp2
    go_ret2
    exact PairRes.of_none HR.o rfl HK.o
   | true=>
    cases z with
    | true=>
     have HR:=gi (show R=none by rw [HR0.o];simp);go_enter Tryz.func96,Tryz.ntmps96
     go_upto_region 1 with fail
     rw [←HYE.o,←HBE.o];go_upto_region 3 with fail
     go_cut [10] (fun s10 wx=> ∃ cc:Bool,s10=F cc∧Y=wx)
     case first=>
      go_wp2;go_meet;exact ⟨_,rfl,rfl⟩
     obtain ⟨cc,rfl,rfl⟩:=hcut;go_upto_region 15 with fail
     have u0:=cell_regrown c0;have u1:=cell_regrown c1;have u2:=cell_regrown c2;have u3:=cell_regrown c3;have u4:=cell_regrown c4;have u5:=cell_regrown c5;have u6:=cell_regrown c6;have u7:=cell_regrown c7;have v0:=cell_regrown d0;have v1:=cell_regrown d1;have v2:=cell_regrown d2;have v3:=cell_regrown d3;have v4:=cell_regrown d4;have v5:=cell_regrown d5;have v6:=cell_regrown d6;have v7:=cell_regrown d7;have y0:=cell_regrown x0;have y1:=cell_regrown x1;have y2:=cell_regrown x2;have y3:=cell_regrown x3;have y4:=cell_regrown x4;have y5:=cell_regrown x5;have y6:=cell_regrown x6;have y7:=cell_regrown x7;clear c0 c1 c2 c3 c4 c5 c6 c7 d0 d1 d2 d3 d4 d5 d6 d7 x0 x1 x2 x3 x4 x5 x6 x7;refine wp_region_quiet_below (by kernel_rfl) (by kernel_rfl) ?_
     repeat (go_big_quiet_step (first | exact CS.o _ _ | exact CE.o _ _ | exact CN.o _ _))
     refine wpQuiet_nil ?_;intro _ hw';obtain ⟨pq,hw''⟩:=hw';subst hw'';have hk:=Keeps.of_below (below_regrown Y pq.d pq.os);have HKZ:=gi hk;have HK:=gi (KY.o.trans hk);clear hk u0 u1 u2 u3 u4 u5 u6 u7 v0 v1 v2 v3 v4 v5 v6 v7 y0 y1 y2 y3 y4 y5 y6 y7
     generalize grow (redrawn Y pq.d) pq.os=Z at *
     go_wp2
     go_ret2
     exact PairRes.of_none HR.o rfl HK.o
    | false=>
     have HR:=gi (show R=some [n0.tree] by rw [HR0.o];simp);go_enter Tryz.func96,Tryz.ntmps96
     go_upto_region 1 with fail
     rw [←HYE.o,←HBE.o];go_upto_region 3 with fail
     go_cut [10] (fun s10 wx=> ∃ cc:Bool,s10=F cc∧Y=wx)
     case first=>
      go_wp2;go_meet;exact ⟨_,rfl,rfl⟩
     obtain ⟨cc,rfl,rfl⟩:=hcut;go_upto_region 15 with fail
     have u0:=cell_regrown c0;have u1:=cell_regrown c1;have u2:=cell_regrown c2;have u3:=cell_regrown c3;have u4:=cell_regrown c4;have u5:=cell_regrown c5;have u6:=cell_regrown c6;have u7:=cell_regrown c7;have v0:=cell_regrown d0;have v1:=cell_regrown d1;have v2:=cell_regrown d2;have v3:=cell_regrown d3;have v4:=cell_regrown d4;have v5:=cell_regrown d5;have v6:=cell_regrown d6;have v7:=cell_regrown d7;have y0:=cell_regrown x0;have y1:=cell_regrown x1;have y2:=cell_regrown x2;have y3:=cell_regrown x3;have y4:=cell_regrown x4;have y5:=cell_regrown x5;have y6:=cell_regrown x6;have y7:=cell_regrown x7;clear c0 c1 c2 c3 c4 c5 c6 c7 d0 d1 d2 d3 d4 d5 d6 d7 x0 x1 x2 x3 x4 x5 x6 x7;refine wp_region_quiet_below (by kernel_rfl) (by kernel_rfl) ?_
     repeat (go_big_quiet_step (first | exact CS.o _ _ | exact CE.o _ _ | exact CN.o _ _))
     refine wpQuiet_nil ?_;intro _ hw';obtain ⟨pq,hw''⟩:=hw';subst hw'';have hk:=Keeps.of_below (below_regrown Y pq.d pq.os);have HKZ:=gi hk;have HK:=gi (KY.o.trans hk);clear hk u0 u1 u2 u3 u4 u5 u6 u7 v0 v1 v2 v3 v4 v5 v6 v7 y0 y1 y2 y3 y4 y5 y6 y7
     generalize grow (redrawn Y pq.d) pq.os=Z at *
     obtain ⟨d0,d1,d2,d3,d4,d5,d6,d7⟩:=HD.o;obtain ⟨v0,v1,v2,v3,v4,v5,v6,v7⟩:=HKZ.o.c8 d0 d1 d2 d3 d4 d5 d6 d7;clear d0 d1 d2 d3 d4 d5 d6 d7;go_wp2
     go_ret2
     exact PairRes.of_some (some ⟨Z.heap.size,0,none⟩) n0 HR.o rfl rfl (lone_in (HNO.o.keep HK.o) _ (by rw [N0.o];rfl)) (HK.o.trans (Keeps.a1 _ _)) (From.of_mem HBL.o)
 ·have hb4:(op1==4)=false:=by simpa using h4
  have HR:=gi (show R=none by
   have h5:s=false:=by
    cases hq':s with
    | false=> rfl
    | true=> exact absurd (hmo (by rw [←hs,hq'])) (by rw [hso];exact h4)
   rw [hR0,h5];simp)
  clear hst HE hP hs hq hmo hso k1 k2 f1 b1 b2 hm0 hm1 hn0 hv1 hv2 hR0;obtain ⟨B,Y,c0,c1,c2,c3,c4,c5,c6,c7,d0,d1,d2,d3,d4,d5,d6,d7,HYE,HBE,KY⟩:=pre2 w op1 sa1 sc1 set1 ka1 kc1 kids1 mn1 mx1 mode1 n1 neg1 op2 sa2 sc2 set2 ka2 kc2 kids2 mn2 mx2 mode2 n2 neg2;go_enter Tryz.func96,Tryz.ntmps96
  go_upto_region 1 with fail
  rw [←HYE.o,←HBE.o];go_upto_region 3 with fail
  go_cut [10] (fun s10 wx=> ∃ cc:Bool,s10=F cc∧Y=wx)
  case first=>
   by_cases z2:op1=2
   ·by_cases z3:op2=2
    ·subst z2;subst z3;go_wp2;go_meet;exact ⟨_,rfl,rfl⟩
    ·have z3b:(op2==2)=false:=by simpa using z3
     subst z2;go_wp2;go_meet;exact ⟨_,rfl,rfl⟩
   ·have z2b:(op1==2)=false:=by simpa using z2
    go_wp2;go_meet;exact ⟨_,rfl,rfl⟩
  obtain ⟨cc,rfl,rfl⟩:=hcut;go_upto_region 15 with fail
  go_quiet (fail)
  go_wp2
  go_ret2
  exact PairRes.of_none HR.o rfl (KY.o.drewN _)
def letT (lo hi:Int):Tree:=.node 1 [(lo,hi)] [] 0 0 0 0 false
def starT (t:Tree):Tree:=.node 4 [] [t] 0 (-1) 0 0 false
def catT (a b:Tree):Tree:=.node 2 [] [a,b] 0 0 0 0 false
def TreePost (w:World) (t:Tree) (e:Ending) (w':World):Prop:=∃ m:MRe,e=.returned m.val∧m.tree=t∧m.OK w'∧Keeps [] w w'
theorem letter_any (lo hi:Int) (w:World):Calls Tryz.prog 39 #[H J lo,H J hi] w (TreePost w (letT lo hi)):=by
 go_enter Tryz.func39,Tryz.ntmps39
 go_wp2;refine bodyPost_ret (results_cell_row rfl _ _ w.heap.size 26 #[H J 1,M (some ⟨w.heap.size + 1,0,none⟩) 1 1,M none 0 0,H J 0,H J 0,H J 0,H J 0,F false] (0,0) _ rfl ((Keeps.a1 _ _).heap (heap_alloc_new w _) (by simp)) Tryz.underlying26 rfl sizeRe) rfl ?_;refine ⟨.node 1 (some ⟨w.heap.size + 1,0,none⟩) 1 [(lo,hi)] none 0 [] 0 0 0 0 false,rfl,rfl,.of (SpansIn.of_block (set:=[(lo,hi)]) (heap_alloc2_new w _ _) rfl (by simp [maxLen])) (KidsIn.nil _),Keeps.a2 _ _ _⟩
theorem lstar_any (m:MRe) (w:World) (k1:m.OK w):Calls Tryz.prog 41 #[m.val] w (TreePost w (starT m.tree)):=by
 obtain ⟨m0,hm0⟩:∃ m0,m0=m:=⟨_,rfl⟩;rw [←hm0] at k1 ⊢;have HM:=gi hm0;obtain ⟨op,sa,sc,set,ka,kc,kids,mn,mx,mode,n,neg⟩:=m;have hv:m0.val=.agg #[H J op,M sa set.length sc,M ka kids.length kc,H J mn,H J mx,H J mode,H J n,F neg]:=by rw [hm0];rfl
 rw [hv];have HK:=gi k1;clear hm0 hv k1;go_enter Tryz.func41,Tryz.ntmps41
 go_wp2;refine bodyPost_ret (results_cell_row rfl _ _ (w.heap.size + 1) 26 #[H J 4,M none 0 0,M (some ⟨w.heap.size + 2,0,none⟩) 1 1,H J 0,H J (-1),H J 0,H J 0,F false] (0,0) _ rfl ((Keeps.a1 _ _).heap (heap_alloc2_new w _ _) (by simp)) Tryz.underlying26 rfl sizeRe) rfl ?_;refine ⟨.node 4 none 0 [] (some ⟨w.heap.size + 2,0,none⟩) 1 [m0] 0 (-1) 0 0 false,rfl,rfl,.of (SpansIn.nil _) ⟨NodesIn.of_block (kids:=[m0]) (T:=26) (fz:=(0,0)) (cs:=#[H J op,M sa set.length sc,M ka kids.length kc,H J mn,H J mx,H J mode,H J n,F neg]) ?_ (by rw [HM.o];rfl) (by simp [maxLen]),fun x hx=> ?_⟩,Keeps.a3 _ _ _ _⟩
 ·have h:=heap_alloc_new ((w.alloc (.cells #[H J op,M sa set.length sc,M ka kids.length kc,H J mn,H J mx,H J mode,H J n,F neg] 26)).alloc (.cells #[H J 4,M none 0 0,M (some ⟨w.heap.size + 2,0,none⟩) 1 1,H J 0,H J (-1),H J 0,H J 0,F false] 26)) (.cells #[H J op,M sa set.length sc,M ka kids.length kc,H J mn,H J mx,H J mode,H J n,F neg] 26);rw [show ((w.alloc (.cells #[H J op,M sa set.length sc,M ka kids.length kc,H J mn,H J mx,H J mode,H J n,F neg] 26)).alloc (.cells #[H J 4,M none 0 0,M (some ⟨w.heap.size + 2,0,none⟩) 1 1,H J 0,H J (-1),H J 0,H J 0,F false] 26)).heap.size=w.heap.size + 2 by simp] at h;exact h
 ·simp only [List.mem_cons,List.not_mem_nil,or_false] at hx;subst hx;exact HK.o.keep (Keeps.a3 _ _ _ _)
theorem lcat_any (m1 m2:MRe) (w:World) (k1:m1.OK w) (k2:m2.OK w):Calls Tryz.prog 40 #[m1.val,m2.val] w (TreePost w (catT m1.tree m2.tree)):=by
 obtain ⟨n1',hn1⟩:∃ n1',n1'=m1:=⟨_,rfl⟩;obtain ⟨n2',hn2⟩:∃ n2',n2'=m2:=⟨_,rfl⟩;rw [←hn1] at k1 ⊢;rw [←hn2] at k2 ⊢;have H1:=gi hn1;have H2:=gi hn2;obtain ⟨op5,sa5,sc5,set5,ka5,kc5,kids5,mn5,mx5,mode5,n5,neg5⟩:=m1;obtain ⟨op6,sa6,sc6,set6,ka6,kc6,kids6,mn6,mx6,mode6,n6,neg6⟩:=m2;have hv1:n1'.val=.agg #[H J op5,M sa5 set5.length sc5,M ka5 kids5.length kc5,H J mn5,H J mx5,H J mode5,H J n5,F neg5]:=by rw [hn1];rfl
 have hv2:n2'.val=.agg #[H J op6,M sa6 set6.length sc6,M ka6 kids6.length kc6,H J mn6,H J mx6,H J mode6,H J n6,F neg6]:=by rw [hn2];rfl
 rw [hv1,hv2];have HK1:=gi k1;have HK2:=gi k2;clear hn1 hn2 hv1 hv2 k1 k2;go_enter Tryz.func40,Tryz.ntmps40
 go_wp2;refine bodyPost_ret (results_cell_row rfl _ _ (w.heap.size + 2) 26 #[H J 2,M none 0 0,M (some ⟨w.heap.size + 3,0,none⟩) 2 2,H J 0,H J 0,H J 0,H J 0,F false] (0,0) _ rfl ((Keeps.a1 _ _).heap ?_ (by simp)) Tryz.underlying26 rfl sizeRe) rfl ?_
 ·have h:=heap_alloc_new ((w.alloc (.cells #[H J op5,M sa5 set5.length sc5,M ka5 kids5.length kc5,H J mn5,H J mx5,H J mode5,H J n5,F neg5] 26)).alloc (.cells #[H J op6,M sa6 set6.length sc6,M ka6 kids6.length kc6,H J mn6,H J mx6,H J mode6,H J n6,F neg6] 26)) (.cells #[H J 2,M none 0 0,M (some ⟨w.heap.size + 3,0,none⟩) 2 2,H J 0,H J 0,H J 0,H J 0,F false] 26);rw [show ((w.alloc (.cells #[H J op5,M sa5 set5.length sc5,M ka5 kids5.length kc5,H J mn5,H J mx5,H J mode5,H J n5,F neg5] 26)).alloc (.cells #[H J op6,M sa6 set6.length sc6,M ka6 kids6.length kc6,H J mn6,H J mx6,H J mode6,H J n6,F neg6] 26)).heap.size=w.heap.size + 2 by simp] at h;exact h
 refine ⟨.node 2 none 0 [] (some ⟨w.heap.size + 3,0,none⟩) 2 [n1',n2'] 0 0 0 0 false,rfl,rfl,.of (SpansIn.nil _) ⟨NodesIn.of_block (kids:=[n1',n2']) (T:=26) (fz:=(0,0)) (cs:=#[H J op5,M sa5 set5.length sc5,M ka5 kids5.length kc5,H J mn5,H J mx5,H J mode5,H J n5,F neg5,H J op6,M sa6 set6.length sc6,M ka6 kids6.length kc6,H J mn6,H J mx6,H J mode6,H J n6,F neg6]) ?_ (by rw [H1.o,H2.o];rfl) (by simp [maxLen]),fun x hx=> ?_⟩,Keeps.a4 _ _ _ _ _⟩
 ·have h:=heap_alloc_new (((w.alloc (.cells #[H J op5,M sa5 set5.length sc5,M ka5 kids5.length kc5,H J mn5,H J mx5,H J mode5,H J n5,F neg5] 26)).alloc (.cells #[H J op6,M sa6 set6.length sc6,M ka6 kids6.length kc6,H J mn6,H J mx6,H J mode6,H J n6,F neg6] 26)).alloc (.cells #[H J 2,M none 0 0,M (some ⟨w.heap.size + 3,0,none⟩) 2 2,H J 0,H J 0,H J 0,H J 0,F false] 26)) (.cells #[H J op5,M sa5 set5.length sc5,M ka5 kids5.length kc5,H J mn5,H J mx5,H J mode5,H J n5,F neg5,H J op6,M sa6 set6.length sc6,M ka6 kids6.length kc6,H J mn6,H J mx6,H J mode6,H J n6,F neg6] 26);rw [show (((w.alloc (.cells #[H J op5,M sa5 set5.length sc5,M ka5 kids5.length kc5,H J mn5,H J mx5,H J mode5,H J n5,F neg5] 26)).alloc (.cells #[H J op6,M sa6 set6.length sc6,M ka6 kids6.length kc6,H J mn6,H J mx6,H J mode6,H J n6,F neg6] 26)).alloc (.cells #[H J 2,M none 0 0,M (some ⟨w.heap.size + 3,0,none⟩) 2 2,H J 0,H J 0,H J 0,H J 0,F false] 26)).heap.size=w.heap.size + 3 by simp] at h;exact h
 ·simp only [List.mem_cons,List.not_mem_nil,or_false] at hx
  rcases hx with rfl | rfl
  ·exact HK1.o.keep (Keeps.a4 _ _ _ _ _)
  ·exact HK2.o.keep (Keeps.a4 _ _ _ _ _)
theorem infoS:(Tryz.prog.info? 9).map (fun i=> (i.zero,i.size,i.bytes))=some (some (.string ⟨#[]⟩),1,16):=by kernel_rfl
theorem names_any (w:World):Calls Tryz.prog 15 #[] w fun e w'=> ∃ g c,e=.returned (M (some ⟨g,0,none⟩) 17 c)∧Keeps [] w w':=by
 obtain ⟨i0,hi0,hz0,hz1,hz2⟩:=info_parts infoS;have Hi:=gi hi0;have Hz0:=gi hz0;have Hz1:=gi hz1;have Hz2:=gi hz2;clear hi0 hz0 hz1 hz2;go_enter Tryz.func15,Tryz.ntmps15
 go_wp2_with fail
 refine Calls.mono (table_any w) ?_;rintro e w2 ⟨g,rfl,htab,hk,hg⟩;have HT:=gi htab;have HK:=gi hk;clear htab hk hg;go_wp2
 go_loopw [1,6] (fun v i wr=> ∃ (k:Nat) (a:Option Nat) (c:Nat) (xs:List Value),k≤17∧i=H J k∧v=sv a k c∧SliceAt wr 9 1 a k c xs∧Keeps [] w wr∧Keeps [] w2 wr∧(∀ g,a=some g→w2.heap.size≤g)) (fun _ i _=> 17 - (intOf i).toNat)
 case atStart=> exact ⟨0,none,0,[],by omega,rfl,rfl,SliceAt.nil _ _ _,HK.o,Keeps.refl _ _,by simp⟩
 case round=>
  obtain ⟨k,a,c,xs,hk,rfl,rfl,hsl,hkw,hk2,hga⟩:=hrel;have HSL:=gi hsl;have HKW:=gi hkw;have HK2:=gi hk2;have HGA:=gi hga;clear hsl hkw hga
  by_cases hlt:k < 17
  ·have hlti:(k:Int) < 17:=by omega
   obtain ⟨b,hb⟩:∃ b,tableCells[k * 2]? =some (.string b):=by
    obtain rfl | rfl | rfl | rfl | rfl | rfl | rfl | rfl | rfl | rfl | rfl | rfl | rfl | rfl | rfl | rfl | rfl:k=0∨k=1∨k=2∨k=3∨k=4∨k=5∨k=6∨k=7∨k=8∨k=9∨k=10∨k=11∨k=12∨k=13∨k=14∨k=15∨k=16:=by omega
    all_goals exact ⟨_,rfl⟩
   have x0:wr.cell? ⟨g,k * 2,none⟩=some (.string b):=hk2.cell (by simp only [World.cell?,HT.o];exact hb) (by simp);have x1:wr.cell? ⟨g,k * 2 + 1,none⟩=some (.func (Fn.func (ruleFn k)) #[] #[]):=hk2.cell (table_cell HT.o k hlt) (by simp);obtain ⟨F',hF⟩:∃ F',F'=ruleFn k:=⟨_,rfl⟩;rw [←hF] at x1;clear hk2 hb hF
   go_wp2_with (at_builtin;refine wpList_append_sl rfl (.tmp 10) (.tmp 13) 39 rfl 9 i0 _ 1 16 Tryz.underlying39 Hi.o Hz0.o Hz1.o Hz2.o rfl (by decide) a k c xs rfl ((HSL.o.alloc _).alloc _) ⟨wr.heap.size + 1,0,none⟩ 1 1 [.string b] rfl rfl ?hnews ?hone (by decide) (by omega) (by omega) ?hk)
   case hnews=> exact news_row' _ _ _ _ (by simp)
   case hone=> intro u hu;simp at hu;subst hu;rfl
   case hk=>
    intro g' c2 w3 hsl3 hk3 hg3;have hga:∀ x∈a.toList,w2.heap.size≤x:=fun x hx=> HGA.o x (by simpa using hx);have hw2:=HK.o.size;have K3:=gi ((HKW.o.trans (Keeps.a2 _ _ _)).after hk3 (fun x hx=> .inr (by have:=hga x hx;omega)));have K4:=gi ((HK2.o.trans (Keeps.a2 _ _ _)).after hk3 (fun x hx=> .inr (hga x hx)));have S3:=gi hsl3;have G3:=gi (show w2.heap.size≤g' by
     rcases hg3 with h | h
     ·exact HGA.o g' h
     ·have h:wr.heap.size + 1 + 1≤g':=h
      have:=HK2.o.size
      omega)
    clear hsl3 hk3 hg3 hga hw2 x0 x1;go_wp2;go_roundw
    case rel=> exact ⟨k + 1,some g',c2,_,by omega,by go_num,rfl,S3.o,K3.o,K4.o,fun x hx=> by cases hx;exact G3.o⟩
    case measure=> simp [intOf];omega
  ·obtain rfl:k=17:=by omega
   cases a with
   | none=> have:=HSL.o.2.1;omega
   | some g'=>
    simp only [sv,Option.map_some];clear hlt hk hk2;go_wp2;go_ret;exact ⟨g',c,rfl,HKW.o⟩
def lA:Tree:=letT 97 97
def lB:Tree:=letT 98 98
def lC:Tree:=letT 99 99
def ex4:Tree:=mkT 3 [catT lA lB,catT lA lC]
def ex6:Tree:=mkT 3 [lB,lC]
def ex8:Tree:=starT (starT lA)
def ex12:Tree:=catT (starT lA) lB
def ex13:Tree:=mkT 7 [catT lA (starT lB)]
def heldX:Tree:=mkT 2 [.node 4 [] [lA] 0 (-1) 2 0 false,lB]
theorem eqB_self (t:Tree):eqB t t=true:=(eqB_iff t t).2 rfl
theorem ex4_head:headR ex4=some (mkT 2 [lA,mkT 3 [lB,lC]]):=by
 have h:headP (catT lA lB) (catT lA lC)=true:=by simp [headP,catT,Tree.op,Tree.kids,singleHd,singleT,lA,letT,hdEq,eqB_self]
 simp [headR,ex4,pairO,mkT,Tree.op,Tree.kids,nbO,h];simp [swapT,naryT,catT]
theorem ex6_ends:endsP [(98,98)] [(99,99)]=[98,99,100]:=by
 have h:endsF ([(98,98)] ++ [(99,99)])=[98,99,99,100]:=rfl;rw [endsP,h,List.mergeSort_of_pairwise (by decide)]
 decide
theorem ex6_set:unionP [(98,98)] [(99,99)]=[(98,99)]:=by
 rw [unionP,combP,ex6_ends]
 decide
theorem ex6_union:unionR ex6=some (letT 98 99):=by
 have h:uT lB lC=true:=by simp [uT,lB,lC,letT,Tree.op,Tree.set,ex6_set]
 simp [unionR,ex6,pairO,mkT,Tree.op,Tree.kids,nbO,h];simp [swapT,naryT,lB,lC,letT,Tree.set,ex6_set]
theorem ex8_nest:nestR ex8=some (starT lA):=by
 simp [nestR,ex8,starT,gsB,starB,greedyB,Tree.op,Tree.mn,Tree.mx,Tree.mode,Tree.kids,lA,letT,nullP]
theorem ex12_hold:holdR ex12=some heldX:=by
 have h:holdO [starT lA,lB]=some 0:=by
  simp [holdO,holdK,starT,Tree.op,Tree.mode,Tree.mn,Tree.mx,Tree.kids,lA,lB,letT,nullAll,nullP,beginsCat,beginsT,overlapP,Tree.set]
 have e:holdR ex12=(holdO [starT lA,lB]).map fun i=> swapT 2 [starT lA,lB] i (i + 1) [heldT ([starT lA,lB].getD i .nil)]:=by rw [ex12,catT,holdR,if_pos rfl]
 rw [e,h]
 rfl
theorem ex13_peel:peelR ex13=some (mkT 7 [lA]):=by
 have h1:plainP (starT lB)=true:=by simp [plainP,starT,lB,letT,usesT,usesL,usesOfT,hdNull,nullP]
 have h2:nullP (starT lB)=true:=by simp [starT,nullP]
 simp [ex13,mkT,catT,peelR,Tree.op,Tree.kids,h1,h2,naryT]
theorem wf_let (lo hi:Int) (h:0≤lo∧lo≤hi∧hi≤1114111):(letT lo hi).WF:=by
 refine .mk ⟨by omega,by simp,by simp,by simp,by simp,by simp,by simp,fun _=> ⟨h,by simp⟩,by simp,by simp,by simp,by simp,by simp⟩ (by simp)
theorem wf_cat (a b:Tree) (ha:a.WF) (hb:b.WF):(catT a b).WF:=by
 refine .mk ⟨by omega,by simp,by simp,by simp,by simp,by simp,by simp,by simp,by simp,by simp,by simp,by simp,by simp⟩ (by intro k hk;simp at hk;rcases hk with rfl | rfl <;> assumption)
theorem wf_alt (a b:Tree) (ha:a.WF) (hb:b.WF):(mkT 3 [a,b]).WF:=by
 refine .mk ⟨by omega,by simp,by simp,by simp,by simp,by simp,by simp,by simp,by simp,by simp,by simp,by simp,by simp⟩ (by intro k hk;simp at hk;rcases hk with rfl | rfl <;> assumption)
theorem wf_star (a:Tree) (ha:a.WF):(starT a).WF:=by
 refine .mk ⟨by omega,by simp,by simp,by simp,by simp,by simp,by simp,by simp,by simp,by simp,by simp,by simp,by simp⟩ (by intro k hk;simp at hk;subst hk;exact ha)
theorem wf_ahead (a:Tree) (ha:a.WF):(mkT 7 [a]).WF:=by
 refine .mk ⟨by omega,by simp,by simp,by simp,by simp,by simp,by simp,by simp,by simp,by simp,by simp,by simp,by simp⟩ (by intro k hk;simp at hk;subst hk;exact ha)
theorem wfA:lA.WF:=wf_let _ _ (by omega)
theorem wfB:lB.WF:=wf_let _ _ (by omega)
theorem wfC:lC.WF:=wf_let _ _ (by omega)
theorem wf4:ex4.WF:=wf_alt _ _ (wf_cat _ _ wfA wfB) (wf_cat _ _ wfA wfC)
theorem wf6:ex6.WF:=wf_alt _ _ wfB wfC
theorem wf8:ex8.WF:=wf_star _ (wf_star _ wfA)
theorem wf12:ex12.WF:=wf_cat _ _ (wf_star _ wfA) wfB
theorem wf13:ex13.WF:=wf_ahead _ (wf_cat _ _ wfA (wf_star _ wfB))
def AP (w:World) (T:Tree) (e:Ending) (w':World):Prop:=∃ r:MRe,e=.returned (.tuple #[r.val,F true])∧r.tree=T∧r.OK w'∧Keeps [] w w'∧Fresh w.heap.size r.blocks
theorem AP.of {w:World} {T:Tree} {e:Ending} {w':World} (h:ApplyPost w (some T) e w'):AP w T e w':=by
 exact h
theorem bulk_let (lo hi:Int):(letT lo hi).bulk=2:=rfl
theorem ap4 (m:MRe) (w:World) (k1:m.OK w) (ht:m.tree=ex4):Calls Tryz.prog 11 #[H J 4,m.val] w (AP w (mkT 2 [lA,mkT 3 [lB,lC]])):=
 Calls.mono (apply_rule 4 (some (mkT 2 [lA,mkT 3 [lB,lC]])) m w (by omega) k1 (enters_of Tryz.func81 (by kernel_rfl) rfl) (fun t h=> by cases h;decide)
  (fun W h=> by
   have:=head_any m W (k1.keep h) (by rw [ht];exact wf4) (by rw [ht];decide)
   rw [ht,ex4_head] at this;exact this)) fun _ _ h=> AP.of h
theorem ap6 (m:MRe) (w:World) (k1:m.OK w) (ht:m.tree=ex6):Calls Tryz.prog 11 #[H J 6,m.val] w (AP w (letT 98 99)):=
 Calls.mono (apply_rule 6 (some (letT 98 99)) m w (by omega) k1 (enters_of Tryz.func83 (by kernel_rfl) rfl) (fun t h=> by cases h;decide)
  (fun W h=> by
   have:=union_any m W (k1.keep h) (by rw [ht];exact wf6) (by rw [ht];decide)
   rw [ht,ex6_union] at this;exact this)) fun _ _ h=> AP.of h
theorem ap8 (m:MRe) (w:World) (k1:m.OK w) (ht:m.tree=ex8):Calls Tryz.prog 11 #[H J 8,m.val] w (AP w (starT lA)):=
 Calls.mono (apply_rule 8 (some (starT lA)) m w (by omega) k1 (enters_of Tryz.func85 (by kernel_rfl) rfl) (fun t h=> by cases h;decide)
  (fun W h=> by
   have:=nest_any m W (k1.keep h) (by rw [ht];exact wf8)
   rw [ht,ex8_nest] at this;exact this)) fun _ _ h=> AP.of h
theorem ap12 (m:MRe) (w:World) (k1:m.OK w) (ht:m.tree=ex12):Calls Tryz.prog 11 #[H J 12,m.val] w (AP w heldX):=
 Calls.mono (apply_rule 12 (some heldX) m w (by omega) k1 (enters_of Tryz.func89 (by kernel_rfl) rfl) (fun t h=> by cases h;decide)
  (fun W h=> by
   have:=hold_any m W (k1.keep h) (by rw [ht];exact wf12) (by rw [ht];decide)
   rw [ht,ex12_hold] at this;exact this)) fun _ _ h=> AP.of h
theorem ap13 (m:MRe) (w:World) (k1:m.OK w) (ht:m.tree=ex13):Calls Tryz.prog 11 #[H J 13,m.val] w (AP w (mkT 7 [lA])):=
 Calls.mono (apply_rule 13 (some (mkT 7 [lA])) m w (by omega) k1 (enters_of Tryz.func90 (by kernel_rfl) rfl) (fun t h=> by cases h;decide)
  (fun W h=> by
   have:=peel_any m W (k1.keep h) (by rw [ht];exact wf13)
   rw [ht,ex13_peel] at this;exact this)) fun _ _ h=> AP.of h
theorem same0 (m1 m2:MRe) (T:Tree) (w:World) (h1:m1.OK w) (h2:m2.OK w) (t1:m1.tree=T) (t2:m2.tree=T) (hb:T.bulk≤100000):Calls Tryz.prog 13 #[m1.val,m2.val] w fun e w'=> e=.returned (H J 0)∧Keeps [] w w':=by
 have h:=rcompare_any m1 m2 w h1 h2 (by rw [t1];exact hb) (by rw [t2];exact hb);rw [t1,t2,cmpT_self] at h;exact h
theorem mk2_ok {W V:World} {g T:Nat} {fz:Nat × Nat} {op:Int} {s u:MRe} {cs:Array Value} (hs:s.OK W) (hu:u.OK W) (hk:Keeps [] W V) (h:V.heap[g]? =some (.cells cs T fz)) (hc:cs.toList=flatK [s,u]):
  MRe.OK V (.node op none 0 [] (some ⟨g,0,none⟩) 2 [s,u] 0 0 0 0 false):=
 .of (SpansIn.nil _) ⟨NodesIn.of_block (kids:=[s,u]) h hc (by simp [maxLen]),fun x hx=> by
  simp only [List.mem_cons,List.not_mem_nil,or_false] at hx
  rcases hx with rfl | rfl
  ·exact hs.keep hk
  ·exact hu.keep hk⟩
theorem mk1_ok {W V:World} {g T:Nat} {fz:Nat × Nat} {op mn mx mode:Int} {s:MRe} {cs:Array Value} (hs:s.OK W) (hk:Keeps [] W V) (h:V.heap[g]? =some (.cells cs T fz)) (hc:cs.toList=s.row):
  MRe.OK V (.node op none 0 [] (some ⟨g,0,none⟩) 1 [s] mn mx mode 0 false):=
 .of (SpansIn.nil _) ⟨NodesIn.of_block (kids:=[s]) h (by rw [hc];simp [flatK]) (by simp [maxLen]),fun x hx=> by
  simp only [List.mem_cons,List.not_mem_nil,or_false] at hx;subst hx;exact hs.keep hk⟩
def BoxIs (V:World) (g:Nat) (T:Tree):Prop:=∃ x:MRe,At8 V g 0 x∧x.tree=T∧x.OK V
theorem BoxIs.keep {V V':World} {g:Nat} {T:Tree} (h:BoxIs V g T) (k:Keeps [] V V'):BoxIs V' g T:=by
 obtain ⟨x,h1,h2,h3⟩:=h;exact ⟨x,h1.keep k,h2,h3.keep k⟩
theorem box_late {W:World} {x:MRe} {T:Tree} {t:Nat} {cs:Array Value} (hx:x.OK W) (ht:x.tree=T) (hc:cs=x.row.toArray):BoxIs (W.alloc (.cells cs t)) W.heap.size T:=
 ⟨x,At8.of_block (heap_alloc_new W _) hc,ht,hx.keep (Keeps.a1 _ _)⟩
theorem box_early {W:World} {g T0:Nat} {T:Tree} {op sa sc set ka kc kids mn mx mode n neg} (hx:MRe.OK W (.node op sa sc set ka kc kids mn mx mode n neg)) (ht:MRe.tree (.node op sa sc set ka kc kids mn mx mode n neg)=T) (hz:W.heap[g]? =some (.cells #[H J 0,M none 0 0,M none 0 0,H J 0,H J 0,H J 0,H J 0,F false] T0 (0,0))) (hg:g ∉ (MRe.node op sa sc set ka kc kids mn mx mode n neg).blocks):
  BoxIs (set8 W g (H J op) (M sa set.length sc) (M ka kids.length kc) (H J mn) (H J mx) (H J mode) (H J n) (F neg)) g T:=
 ⟨.node op sa sc set ka kc kids mn mx mode n neg,At8.of_block (set8_heap hz _ _ _ _ _ _ _ _) rfl,ht,hx.keepS (set8_keeps _ _ _ _ _ _ _ _ _ _) fun b hb=> by simp only [List.mem_cons,List.not_mem_nil,or_false];exact fun h=> hg (h ▸ hb)⟩
def Lives:Prop:=∀ w:World,Calls Tryz.prog 17 #[] w fun e w'=> e=.returned (F true)∧Keeps [] w w'
end Go.Proofs.YtjnlkjlbejelgaaGreat
