/- Part 9 of the proof. No condition: every lemma says its own. -/
import Derived.Test.YtjnlkjlbejelgaaGreatLah
namespace Go.Proofs.YtjnlkjlbejelgaaGreat
open Go.RowKit
open Go.Value renaming int→H,slice→M,bool→F
open Go.IntKind renaming i64→J
set_option maxRecDepth 100000
set_option maxHeartbeats 16000000
def gsB (t:Tree):Bool:=starB t || greedyB t.op t.mn t.mx t.mode 1 (-1)
def nestR:Tree→Option Tree
 | .node op set kids mn mx mode n neg=>
  if gsB (.node op set kids mn mx mode n neg)=true∧gsB (kids.getD 0 .nil)=true∧nullP ((kids.getD 0 .nil).kids.getD 0 .nil)=false
  then some (.node 4 [] (kids.getD 0 .nil).kids (min mn (kids.getD 0 .nil).mn) (-1) 0 0 false) else none
theorem gsB_op {t:Tree} (h:gsB t=true):t.op=4:=by
 simp only [gsB,starB,greedyB,Bool.or_eq_true,Bool.and_eq_true,beq_iff_eq] at h
 rcases h with h | h
 ·exact h.1
 ·exact h.1
theorem nest_any (m:MRe) (w:World) (k1:m.OK w) (f1:m.tree.WF):
  Calls Tryz.prog 85 #[m.val] w (RulePost w m.blocks (nestR m.tree)):=by
 obtain ⟨m0,hm0⟩:∃ m0,m0=m:=⟨_,rfl⟩;have HS1:=fun W=> star_any m W;have HG1:=fun W=> greedy_any m 1 (-1) W;have hgs:gsB m.tree=(starB m.tree || greedyB m.tree.op m.tree.mn m.tree.mx m.tree.mode 1 (-1)):=rfl;obtain ⟨s1,hs1⟩:∃ s1,s1=starB m.tree:=⟨_,rfl⟩;obtain ⟨g1,hg1⟩:∃ g1,g1=greedyB m.tree.op m.tree.mn m.tree.mx m.tree.mode 1 (-1):=⟨_,rfl⟩;simp only [←hs1] at HS1;simp only [←hg1] at HG1;rw [←hs1,←hg1] at hgs;clear hs1 hg1;obtain ⟨op,sa,sc,set,ka,kc,kids,mn,mx,mode,n,neg⟩:=m;have hno:=wf_node f1;obtain ⟨B,X,HBE,HXE,HC,HZ,hsz,HKX⟩:=pre0 w op sa sc set ka kc kids mn mx mode n neg;have hT:nestR (MRe.tree (.node op sa sc set ka kc kids mn mx mode n neg))=nestR (.node op set (MRe.trees kids) mn mx mode n neg):=rfl;have hT2:gsB (MRe.tree (.node op sa sc set ka kc kids mn mx mode n neg))=gsB (.node op set (MRe.trees kids) mn mx mode n neg):=rfl;rw [hT];rw [hT2] at hgs;simp only [MRe.val] at HS1 HG1 ⊢;have HS1:=gi HS1;have HG1:=gi HG1;have HK0:=gi (Keeps.refl [] X);clear hT hT2 hm0;have HGS:=gi hgs
 by_cases hA:gsB (.node op set (MRe.trees kids) mn mx mode n neg)=true
 ·have h4:op=4:=gsB_op hA;subst h4;have hlen0:kids.length=1:=hno.hone (by simp);have HLEN:=gi hlen0;have hln:(0:Int) < (kids.length:Int):=by omega
  have hln0:0 < kids.length:=by omega
  have hsg:(s1 || g1)=true:=by rw [←hgs];exact hA
  clear hlen0 hgs;obtain ⟨b1,o1,k0,rfl,hk0m,hk00,hk0a,hk0o⟩:=k1.kids.head hln0;obtain ⟨r,hr⟩:=trees_head hk00;have hg:(MRe.trees kids).getD 0 .nil=k0.tree:=by rw [hr];rfl
  have f2:=wf_kid f1 hk0m;have hb0:∀ q∈k0.blocks,q∈(MRe.node 4 sa sc set (some ⟨b1,o1,none⟩) kc kids mn mx mode n neg).blocks:=blocks_kid hk0m;have hPR:nestR (.node 4 set (MRe.trees kids) mn mx mode n neg)=if gsB k0.tree=true∧nullP (k0.tree.kids.getD 0 .nil)=false then some (.node 4 [] k0.tree.kids (min mn k0.tree.mn) (-1) 0 0 false) else none:=by
   rw [nestR,hg,hA];simp only [true_and]
  have HS2:=fun W=> star_any k0 W;have HG2:=fun W=> greedy_any k0 1 (-1) W;have hgs2:gsB k0.tree=(starB k0.tree || greedyB k0.tree.op k0.tree.mn k0.tree.mx k0.tree.mode 1 (-1)):=rfl;obtain ⟨s2,hs2⟩:∃ s2,s2=starB k0.tree:=⟨_,rfl⟩;obtain ⟨g2,hg2⟩:∃ g2,g2=greedyB k0.tree.op k0.tree.mn k0.tree.mx k0.tree.mode 1 (-1):=⟨_,rfl⟩;simp only [←hs2] at HS2;simp only [←hg2] at HG2;rw [←hs2,←hg2] at hgs2;obtain ⟨k00,hk000⟩:∃ k00,k00=k0:=⟨_,rfl⟩;have K00:=gi hk000;have H4:=gi (fun (h:gsB k0.tree=true)=> gsB_op h);have HF2:=gi f2;have HO2:=gi hk0o;have HB0:=gi hb0;have HLT:=gi k1.block_lt;rw [←hk000] at hPR hgs2;have HPR:=gi hPR;have HGS2:=gi hgs2;obtain ⟨op1,sa1,sc1,set1,ka1,kc1,kids1,mn1,mx1,mode1,n1,neg1⟩:=k0;have g:=hk0a.node;obtain ⟨e0,e1,e2,e3,e4,e5,e6,e7⟩:=id g;obtain ⟨d0,d1,d2,d3,d4,d5,d6,d7⟩:=HKX.o.c8 e0 e1 e2 e3 e4 e5 e6 e7;simp only [MRe.val] at HS2 HG2;have HS2:=gi HS2;have HG2:=gi HG2;clear g e0 e1 e2 e3 e4 e5 e6 e7 hg hr hk00 hk0m hk0a hk0o f2 f1 k1 hb0 hPR hgs2 hs2 hg2 hk000 hno hA;obtain ⟨c0,c1,c2,c3,c4,c5,c6,c7⟩:=HC.o.cells0;go_enter Tryz.func85,Tryz.ntmps85
  go_upto_region 1 with fail
  rw [←HXE.o,←HBE.o]
  go_cut [12] (fun s12 wx=> s12=F false∧∃ W,W=wx∧Keeps [] X W)
  case first=>
   cases s1 with
   | true=>
    go_wp2_with fail
    refine Calls.mono (HS1.o _) ?_;rintro e w2 ⟨rfl,hk2⟩;have K2:=gi hk2;clear hk2;go_wp2;go_meet;exact ⟨rfl,_,rfl,K2.o⟩
   | false=>
    obtain rfl:g1=true:=by simpa using hsg
    go_wp2_with fail
    refine Calls.mono (HS1.o _) ?_;rintro e w2 ⟨rfl,hk2⟩;have K2:=gi hk2;obtain ⟨u0,u1,u2,u3,u4,u5,u6,u7⟩:=K2.o.c8 c0 c1 c2 c3 c4 c5 c6 c7;clear hk2 c0 c1 c2 c3 c4 c5 c6 c7;go_wp2_with fail
    refine Calls.mono (HG1.o _) ?_;rintro e w3 ⟨rfl,hk3⟩;have K3:=gi (K2.o.trans hk3);clear hk3;go_wp2;go_meet;exact ⟨rfl,_,rfl,K3.o⟩
  case rest=>
   obtain ⟨rfl,W,rfl,kW⟩:=hcut;have KW:=gi kW;obtain ⟨t0,t1,t2,t3,t4,t5,t6,t7⟩:=KW.o.c8 c0 c1 c2 c3 c4 c5 c6 c7;obtain ⟨v0,v1,v2,v3,v4,v5,v6,v7⟩:=KW.o.c8 d0 d1 d2 d3 d4 d5 d6 d7;clear kW c0 c1 c2 c3 c4 c5 c6 c7 d0 d1 d2 d3 d4 d5 d6 d7 hsg;go_upto_region 4 with fail
   obtain ⟨C,hCe⟩:∃ C,C=W.heap.size:=⟨_,rfl⟩;obtain ⟨Y,hYe⟩:∃ Y,Y=W.alloc (.cells #[H J op1,M sa1 set1.length sc1,M ka1 kids1.length kc1,H J mn1,H J mx1,H J mode1,H J n1,F neg1] 26):=⟨_,rfl⟩;have hat:At8 Y C 0 (.node op1 sa1 sc1 set1 ka1 kc1 kids1 mn1 mx1 mode1 n1 neg1):=by rw [hYe,hCe];exact At8.box rfl
   have hkY:Keeps [] W Y:=by rw [hYe];exact Keeps.a1 _ _
   rw [←hYe,←hCe];have HCE:=gi hCe;have KY:=gi (KW.o.trans hkY);obtain ⟨y0,y1,y2,y3,y4,y5,y6,y7⟩:=hkY.c8 t0 t1 t2 t3 t4 t5 t6 t7;obtain ⟨p0,p1,p2,p3,p4,p5,p6,p7⟩:=hat.cells0;have hop1:(MRe.tree (.node op1 sa1 sc1 set1 ka1 kc1 kids1 mn1 mx1 mode1 n1 neg1)).op=op1:=rfl;have HOP1:=gi hop1;clear hCe hYe hat hkY t0 t1 t2 t3 t4 t5 t6 t7 v0 v1 v2 v3 v4 v5 v6 v7 hop1
   by_cases hB:gsB k00.tree=true
   ·have h4:op1=4:=by have:=H4.o (by rw [←K00.o];exact hB);rw [HOP1.o] at this;exact this
    subst h4;have hlen1:kids1.length=1:=(wf_node HF2.o).hone (by simp);have hlm:(0:Int) < (kids1.length:Int):=by omega
    have hlm0:0 < kids1.length:=by omega
    clear hlen1;obtain ⟨b3,o3,k3,rfl,hk3m,hk30,hk3a,hk3o⟩:=HO2.o.kids.head hlm0;obtain ⟨r3,hr3⟩:=trees_head hk30;have hg3:k00.tree.kids.getD 0 .nil=k3.tree:=by
     have:k00.tree.kids=MRe.trees kids1:=by rw [K00.o];rfl
     rw [this,hr3];rfl
    have HNL:=fun (V:World) (h:Keeps [] w V)=> null_any k3 V (hk3o.keep h);obtain ⟨q,hq⟩:∃ q,q=nullP k3.tree:=⟨_,rfl⟩;have hPR2:nestR (.node 4 set (MRe.trees kids) mn mx mode n neg)=if q=false then some (.node 4 [] k00.tree.kids (min mn k00.tree.mn) (-1) 0 0 false) else none:=by
     rw [HPR.o,hB,hg3,←hq];simp only [true_and]
    have HPR2:=gi hPR2;simp only [←hq] at HNL;have hsg2:(s2 || g2)=true:=by rw [←HGS2.o];exact hB
    obtain ⟨op3,sa3,sc3,set3,ka3,kc3,kids3,mn3,mx3,mode3,n3,neg3⟩:=k3;have g:=hk3a.node;obtain ⟨e0,e1,e2,e3,e4,e5,e6,e7⟩:=id g;have d0:=(HKX.o.trans KY.o).c e0;have d1:=(HKX.o.trans KY.o).c e1;have d2:=(HKX.o.trans KY.o).c e2;have d3:=(HKX.o.trans KY.o).c e3;have d4:=(HKX.o.trans KY.o).c e4;have d5:=(HKX.o.trans KY.o).c e5;have d6:=(HKX.o.trans KY.o).c e6;have d7:=(HKX.o.trans KY.o).c e7;simp only [MRe.val] at HNL;have HNL:=gi HNL;clear g e0 e1 e2 e3 e4 e5 e6 e7 hk3m hk30 hk3a hk3o hr3 hg3 hq hPR2 hB
    go_cut [32] (fun s32 wx=> s32=F q∧∃ V,V=wx∧Keeps [] Y V)
    case first=>
     cases s2 with
     | true=>
      go_wp2_with fail
      refine Calls.mono (HS2.o _) ?_;rintro e w2 ⟨rfl,hk2⟩;have K2:=gi hk2;obtain ⟨u0,u1,u2,u3,u4,u5,u6,u7⟩:=K2.o.c8 p0 p1 p2 p3 p4 p5 p6 p7;obtain ⟨t0,t1,t2,t3,t4,t5,t6,t7⟩:=K2.o.c8 d0 d1 d2 d3 d4 d5 d6 d7;clear hk2 p0 p1 p2 p3 p4 p5 p6 p7 d0 d1 d2 d3 d4 d5 d6 d7;go_wp2_with fail
      refine Calls.mono (HNL.o _ ((HKX.o.trans KY.o).trans K2.o)) ?_;rintro e w3 ⟨rfl,hk3⟩;have K3:=gi (K2.o.trans hk3);clear hk3;go_wp2;go_meet;exact ⟨rfl,_,rfl,K3.o⟩
     | false=>
      obtain rfl:g2=true:=by simpa using hsg2
      go_wp2_with fail
      refine Calls.mono (HS2.o _) ?_;rintro e w2 ⟨rfl,hk2⟩;have K2:=gi hk2;obtain ⟨u0,u1,u2,u3,u4,u5,u6,u7⟩:=K2.o.c8 p0 p1 p2 p3 p4 p5 p6 p7;obtain ⟨t0,t1,t2,t3,t4,t5,t6,t7⟩:=K2.o.c8 d0 d1 d2 d3 d4 d5 d6 d7;clear hk2 p0 p1 p2 p3 p4 p5 p6 p7 d0 d1 d2 d3 d4 d5 d6 d7;go_wp2_with fail
      refine Calls.mono (HG2.o _) ?_;rintro e w3 ⟨rfl,hk3⟩;have K3:=gi (K2.o.trans hk3);obtain ⟨v0,v1,v2,v3,v4,v5,v6,v7⟩:=hk3.c8 u0 u1 u2 u3 u4 u5 u6 u7;obtain ⟨x0,x1,x2,x3,x4,x5,x6,x7⟩:=hk3.c8 t0 t1 t2 t3 t4 t5 t6 t7;clear hk3 u0 u1 u2 u3 u4 u5 u6 u7 t0 t1 t2 t3 t4 t5 t6 t7;go_wp2_with fail
      refine Calls.mono (HNL.o _ ((HKX.o.trans KY.o).trans K3.o)) ?_;rintro e w4 ⟨rfl,hk4⟩;have K4:=gi (K3.o.trans hk4);clear hk4;go_wp2;go_meet;exact ⟨rfl,_,rfl,K4.o⟩
    case rest=>
     obtain ⟨rfl,V,rfl,kV⟩:=hcut;have KV:=gi (KY.o.trans kV);obtain ⟨t0,t1,t2,t3,t4,t5,t6,t7⟩:=kV.c8 y0 y1 y2 y3 y4 y5 y6 y7;obtain ⟨v0,v1,v2,v3,v4,v5,v6,v7⟩:=kV.c8 p0 p1 p2 p3 p4 p5 p6 p7;clear kV y0 y1 y2 y3 y4 y5 y6 y7 p0 p1 p2 p3 p4 p5 p6 p7 d0 d1 d2 d3 d4 d5 d6 d7 hsg2
     cases q with
     | true=>
      have HR:=gi (show nestR (.node 4 set (MRe.trees kids) mn mx mode n neg)=none by rw [HPR2.o,if_neg (by simp)]);obtain ⟨z0,z1,z2,z3,z4,z5,z6,z7,zf,HR2,HK2⟩:=nn HBE.o HKX.o KV.o HZ.o;go_wp2;refine rt HR2.o ?_;exact RulePost.of_none HR.o rfl HK2.o
     | false=>
      have HR:=gi (show nestR (.node 4 set (MRe.trees kids) mn mx mode n neg)=some (.node 4 [] k00.tree.kids (min mn k00.tree.mn) (-1) 0 0 false) by rw [HPR2.o,if_pos rfl]);obtain ⟨z0,z1,z2,z3,z4,z5,z6,z7,zf⟩:=zero_cells (KV.o.h HZ.o);go_wp2
      all_goals
       first
       | (have hM:mn=min mn mn1:=by omega
          have hk8:=set8_keeps V (B + 1) (H J 4) (M none 0 0) (M (some ⟨b3,o3,none⟩) kids1.length kc1) (H J mn) (H J (-1)) (H J 0) (H J 0) (F false);have hR:=set8_heap (KV.o.h HZ.o) (H J 4) (M none 0 0) (M (some ⟨b3,o3,none⟩) kids1.length kc1) (H J mn) (H J (-1)) (H J 0) (H J 0) (F false);refine rt hR ?_;have hnb:∀ q∈blockIf kids1.length (some ⟨b3,o3,none⟩) ++ MRe.blocksL kids1,q∈(MRe.node 4 sa sc set (some ⟨b1,o1,none⟩) kc kids mn mx mode n neg).blocks:=fun q hq=> HB0.o q (by simp only [MRe.blocks,List.mem_append] at hq ⊢;exact .inr hq);refine RulePost.of_some (.node 4 none 0 [] (some ⟨b3,o3,none⟩) kc1 kids1 mn (-1) 0 0 false) (by rw [HR.o,K00.o];show some (Tree.node 4 [] (MRe.trees kids1) (min mn mn1) (-1) 0 0 false)=some (Tree.node 4 [] (MRe.trees kids1) mn (-1) 0 0 false);rw [←hM]) rfl (.of (SpansIn.nil _) ((HO2.o.kids.keep (HKX.o.trans KV.o)).keepS hk8 fun q hq=> ?_)) ((HKX.o.trans KV.o).after hk8 (by intro x hx;simp at hx;subst hx;exact .inr (by rw [HBE.o];omega))) ?_
          ·have:=HLT.o q (hnb q hq);have:=HBE.o;simp;omega
          ·intro q hq;simp only [MRe.blocks,List.mem_append] at hq
           rcases hq with hq | hq
           ·simp [blockIf] at hq
           ·exact .inl (hnb q (by simp only [List.mem_append];exact hq)))
       | (have hM:mn1=min mn mn1:=by omega
          have hk8:=set8_keeps V (B + 1) (H J 4) (M none 0 0) (M (some ⟨b3,o3,none⟩) kids1.length kc1) (H J mn1) (H J (-1)) (H J 0) (H J 0) (F false);have hR:=set8_heap (KV.o.h HZ.o) (H J 4) (M none 0 0) (M (some ⟨b3,o3,none⟩) kids1.length kc1) (H J mn1) (H J (-1)) (H J 0) (H J 0) (F false);refine rt hR ?_;have hnb:∀ q∈blockIf kids1.length (some ⟨b3,o3,none⟩) ++ MRe.blocksL kids1,q∈(MRe.node 4 sa sc set (some ⟨b1,o1,none⟩) kc kids mn mx mode n neg).blocks:=fun q hq=> HB0.o q (by simp only [MRe.blocks,List.mem_append] at hq ⊢;exact .inr hq);refine RulePost.of_some (.node 4 none 0 [] (some ⟨b3,o3,none⟩) kc1 kids1 mn1 (-1) 0 0 false) (by rw [HR.o,K00.o];show some (Tree.node 4 [] (MRe.trees kids1) (min mn mn1) (-1) 0 0 false)=some (Tree.node 4 [] (MRe.trees kids1) mn1 (-1) 0 0 false);rw [←hM]) rfl (.of (SpansIn.nil _) ((HO2.o.kids.keep (HKX.o.trans KV.o)).keepS hk8 fun q hq=> ?_)) ((HKX.o.trans KV.o).after hk8 (by intro x hx;simp at hx;subst hx;exact .inr (by rw [HBE.o];omega))) ?_
          ·have:=HLT.o q (hnb q hq);have:=HBE.o;simp;omega
          ·intro q hq;simp only [MRe.blocks,List.mem_append] at hq
           rcases hq with hq | hq
           ·simp [blockIf] at hq
           ·exact .inl (hnb q (by simp only [List.mem_append];exact hq)))
   ·have HR:=gi (show nestR (.node 4 set (MRe.trees kids) mn mx mode n neg)=none by rw [HPR.o,if_neg (fun h=> hB h.1)]);have hsg2:(s2 || g2)=false:=by rw [←HGS2.o];simpa using hB
    obtain ⟨rfl,rfl⟩:s2=false∧g2=false:=by simpa using hsg2
    clear hB hsg2;go_wp2_with fail
    refine Calls.mono (HS2.o _) ?_;rintro e w2 ⟨rfl,hk2⟩;have K2:=gi hk2;obtain ⟨u0,u1,u2,u3,u4,u5,u6,u7⟩:=K2.o.c8 p0 p1 p2 p3 p4 p5 p6 p7;clear hk2 p0 p1 p2 p3 p4 p5 p6 p7 y0 y1 y2 y3 y4 y5 y6 y7;go_wp2_with fail
    refine Calls.mono (HG2.o _) ?_;rintro e w3 ⟨rfl,hk3⟩;have K3:=gi (KY.o.trans (K2.o.trans hk3));clear hk3;obtain ⟨z0,z1,z2,z3,z4,z5,z6,z7,zf,HR2,HK2⟩:=nn HBE.o HKX.o K3.o HZ.o;go_wp2;refine rt HR2.o ?_;exact RulePost.of_none HR.o rfl HK2.o
 ·have HR:=gi (show nestR (.node op set (MRe.trees kids) mn mx mode n neg)=none by rw [nestR,if_neg (fun h=> hA h.1)]);have hsg:(s1 || g1)=false:=by rw [←hgs];simpa using hA
  obtain ⟨rfl,rfl⟩:s1=false∧g1=false:=by simpa using hsg
  clear hgs hA hsg;obtain ⟨c0,c1,c2,c3,c4,c5,c6,c7⟩:=HC.o.cells0;go_enter Tryz.func85,Tryz.ntmps85
  go_upto_region 1 with fail
  rw [←HXE.o,←HBE.o];go_wp2_with fail
  refine Calls.mono (HS1.o _) ?_;rintro e w2 ⟨rfl,hk2⟩;have K2:=gi hk2;obtain ⟨u0,u1,u2,u3,u4,u5,u6,u7⟩:=K2.o.c8 c0 c1 c2 c3 c4 c5 c6 c7;clear hk2 c0 c1 c2 c3 c4 c5 c6 c7;go_wp2_with fail
  refine Calls.mono (HG1.o _) ?_;rintro e w3 ⟨rfl,hk3⟩;have K3:=gi (K2.o.trans hk3);clear hk3;obtain ⟨z0,z1,z2,z3,z4,z5,z6,z7,zf,HR2,HK2⟩:=nn HBE.o HKX.o K3.o HZ.o;go_wp2;refine rt HR2.o ?_;exact RulePost.of_none HR.o rfl HK2.o
end Go.Proofs.YtjnlkjlbejelgaaGreat
