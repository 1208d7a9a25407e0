/- Part 26 of the proof. No condition: every lemma says its own. -/
import Derived.Test.YtjnlkjlbejelgaaGreatQay
namespace Go.Proofs.YtjnlkjlbejelgaaGreat
open Go.RowKit
open Go.Value renaming int→H,slice→M,bool→F
open Go.IntKind renaming i64→J
open Go.RowKit Go.Sort Go.BigFrame
set_option maxRecDepth 100000
set_option maxHeartbeats 16000000
theorem pairs_any (r:Int) (p:Tree→Tree→Bool) (res:Tree→Tree→Tree) (m:MRe) (w:World) (k1:m.OK w) (f1:m.tree.WF) (ho:m.tree.op=2∨m.tree.op=3) (hb:m.tree.bulk≤100000)
  (hp:∀ (a b:MRe) (V:World),a.OK V→b.OK V→a.tree.WF→b.tree.WF→a.tree.bulk≤100000→b.tree.bulk≤100000→Calls Tryz.prog 96 #[H J r,a.val,b.val] V (PairRes V (a.blocks ++ b.blocks) (if p a.tree b.tree=true then some [res a.tree b.tree] else none))):
  Calls Tryz.prog 50 #[H J r,m.val] w (RulePost w m.blocks ((nbO p m.tree.kids).map fun i=> swapT m.tree.op m.tree.kids i (i + 2) [res (m.tree.kids.getD i .nil) (m.tree.kids.getD (i + 1) .nil)])):=by
 obtain ⟨R,hR0⟩:∃ R,R=((nbO p m.tree.kids).map fun i=> swapT m.tree.op m.tree.kids i (i + 2) [res (m.tree.kids.getD i .nil) (m.tree.kids.getD (i + 1) .nil)]):=⟨_,rfl⟩;rw [←hR0];have HREP:=gi (fun i l=> repT_swap f1 ho i (i + 2) l);have HSW:=gi (fun (W:World) (h:Keeps [] w W) (i:Nat) (la:Option Addr) (ms:List MRe)=> replaced_any m i (i + 2) la 1 ms W (k1.keep h));have HLT:=gi k1.block_lt;obtain ⟨op,sa,sc,set,ka,kc,kids,mn,mx,mode,n,neg⟩:=m;obtain ⟨hbl,_,hbk⟩:=kids_bulk hb;have HPA:=gi (fun (a b:MRe) (ha:a∈kids) (hbm:b∈kids) (W:World) (h:Keeps [] w W)=> hp a b W ((k1.kid ha).keep h) ((k1.kid hbm).keep h) (wf_kid f1 ha) (wf_kid f1 hbm) (hbk a ha) (hbk b hbm));obtain ⟨B,X,HBE,HXE,HC,HZ,hsz,HKX⟩:=pre0 w op sa sc set ka kc kids mn mx mode n neg;have HXS:=gi hsz;have HK0:=gi (Keeps.refl [] X);replace hR0:R=(nbO p (MRe.trees kids)).map fun i=> swapT op (MRe.trees kids) i (i + 2) [res ((MRe.trees kids).getD i .nil) ((MRe.trees kids).getD (i + 1) .nil)]:=hR0;have HR0:=gi hR0;have hcap:=k1.nodes.cap;have hle:=k1.nodes.le;unfold maxLen at hcap;have K1:=gi k1;simp only [MRe.val];clear hR0 k1 f1 hb hbk hp hsz ho;obtain ⟨c0,c1,c2,c3,c4,c5,c6,c7⟩:=HC.o.cells0;go_enter Tryz.func50,Tryz.ntmps50
 go_upto_region 1 with fail
 rw [←HXE.o,←HBE.o];go_wp2
 go_loopw [6] (fun i wr=> ∃ k:Nat,k≤kids.length∧i=H J k∧(∀ i (h:i + 1 < (MRe.trees kids).length),i < k→p (MRe.trees kids)[i] (MRe.trees kids)[i + 1]=false)∧Keeps [] X wr) (fun i _=> kids.length - (intOf i).toNat)
 case atStart=> exact ⟨0,Nat.zero_le _,rfl,by intro i _ h;omega,Keeps.refl _ _⟩
 case round=>
  obtain ⟨k,hk,rfl,hpk,hkp⟩:=hrel;have HP:=gi hpk;have HKP:=gi hkp;obtain ⟨t0,t1,t2,t3,t4,t5,t6,t7⟩:=hkp.c8 c0 c1 c2 c3 c4 c5 c6 c7;have hw1:IntKind.i64.wrap ((k:Int) + 1)=(k:Int) + 1:=IntWalk.i64_in _ (by omega);have hw2:IntKind.i64.wrap ((k:Int) + 2)=(k:Int) + 2:=IntWalk.i64_in _ (by omega);clear hpk hkp c0 c1 c2 c3 c4 c5 c6 c7
  by_cases hlt:k + 1 < kids.length
  ·have hlt':k + 1 < (MRe.trees kids).length:=by rw [MRe.trees_length];exact hlt
   obtain ⟨b,off,rfl,hbb,hx⟩:=(K1.o.keep (HKX.o.trans HKP.o)).nodes.kid (by omega);have hx0:=hx k (by omega);have hx1:=hx (k + 1) hlt;have hm0:kids[k]∈kids:=List.getElem_mem _;have hm1:kids[k + 1]∈kids:=List.getElem_mem _;have HC:=HPA.o _ _ hm0 hm1;have hsome:=fun h=> nbO_some (p:=p) hlt' HP.o h;have hall:p (MRe.trees kids)[k] (MRe.trees kids)[k + 1]=false→∀ i (h:i + 1 < (MRe.trees kids).length),i < k + 1→p (MRe.trees kids)[i] (MRe.trees kids)[i + 1]=false:=fun h i hi hk=> by
    rcases Nat.lt_or_eq_of_le (Nat.le_of_lt_succ hk) with h1 | h1
    ·exact HP.o i hi h1
    ·subst h1;exact h
   rw [trees_getElem kids k (by omega),trees_getElem kids (k + 1) hlt] at hsome hall;have hg0:(MRe.trees kids).getD k .nil=(kids[k]'(by omega)).tree:=by rw [List.getD_eq_getElem?_getD,List.getElem?_eq_getElem (by rw [MRe.trees_length];omega),Option.getD_some,trees_getElem]
   have hg1:(MRe.trees kids).getD (k + 1) .nil=(kids[k + 1]'(by omega)).tree:=by rw [List.getD_eq_getElem?_getD,List.getElem?_eq_getElem (by rw [MRe.trees_length];omega),Option.getD_some,trees_getElem]
   have hb0:∀ x∈kids[k].blocks ++ kids[k + 1].blocks,x∈(MRe.node op sa sc set (some ⟨b,off,none⟩) kc kids mn mx mode n neg).blocks:=fun x hx=> by
    rcases List.mem_append.1 hx with h | h
    ·exact blocks_kid hm0 x h
    ·exact blocks_kid hm1 x h
   have hRs:p kids[k].tree kids[k + 1].tree=true→R=some (swapT op (MRe.trees kids) k (k + 2) [res kids[k].tree kids[k + 1].tree]):=fun h=> by rw [HR0.o,hsome h,Option.map_some,hg0,hg1]
   have HAL:=gi hall;have HRS:=gi hRs;have HB0:=gi hb0;obtain ⟨a,hae⟩:∃ a,a=kids[k]:=⟨_,rfl⟩;obtain ⟨c,hce⟩:∃ c,c=kids[k + 1]:=⟨_,rfl⟩;rw [←hae] at hx0 HAL HRS HB0;rw [←hce] at hx1 HAL HRS HB0;rw [←hae,←hce] at HC;obtain ⟨q,hq⟩:∃ q,q=p a.tree c.tree:=⟨_,rfl⟩;rw [←hq] at HAL HRS;simp only [←hq] at HC;obtain ⟨T,hT⟩:∃ T,T=res a.tree c.tree:=⟨_,rfl⟩;rw [←hT] at HRS;simp only [←hT] at HC;obtain ⟨src,hsrc⟩:∃ src,src=a.blocks ++ c.blocks:=⟨_,rfl⟩;rw [←hsrc] at HB0;simp only [←hsrc] at HC;obtain ⟨op1,sa1,sc1,set1,ka1,kc1,kids1,mn1,mx1,mode1,n1,neg1⟩:=a;obtain ⟨op2,sa2,sc2,set2,ka2,kc2,kids2,mn2,mx2,mode2,n2,neg2⟩:=c;have g:=hx0.node;obtain ⟨e0,e1,e2,e3,e4,e5,e6,e7⟩:=id g;clear g;have g:=hx1.node;obtain ⟨f0,f1,f2,f3,f4,f5,f6,f7⟩:=id g;simp only [MRe.val] at HC;have HC:=gi HC;have hkI:(k:Int) < (kids.length:Int):=by omega
   have hk1I:(k:Int) + 1 < (kids.length:Int):=by omega
   have hk0:(0:Int)≤(k:Int):=by omega
   have hk1:(0:Int)≤(k:Int) + 1:=by omega
   have hkN:((k:Int) + 1).toNat=k + 1:=by omega
   have hkn:k < kids.length:=by omega
   clear g hx0 hx1 hx hm0 hm1 hsome hall hg0 hg1 hb0 hRs hae hce hq hT hsrc;go_wp2;refine rg (S:=fun w'=> w'.cell? ⟨B,2,none⟩=some (M (some ⟨b,off,none⟩) kids.length kc)∧(w'.cell? ⟨b,off + k * 8,none⟩=some (H J op1)∧w'.cell? ⟨b,off + k * 8 + 1,none⟩=some (M sa1 set1.length sc1)∧w'.cell? ⟨b,off + k * 8 + 2,none⟩=some (M ka1 kids1.length kc1)∧w'.cell? ⟨b,off + k * 8 + 3,none⟩=some (H J mn1)∧w'.cell? ⟨b,off + k * 8 + 4,none⟩=some (H J mx1)∧w'.cell? ⟨b,off + k * 8 + 5,none⟩=some (H J mode1)∧w'.cell? ⟨b,off + k * 8 + 6,none⟩=some (H J n1)∧w'.cell? ⟨b,off + k * 8 + 7,none⟩=some (F neg1))∧(w'.cell? ⟨b,off + (k + 1) * 8,none⟩=some (H J op2)∧w'.cell? ⟨b,off + (k + 1) * 8 + 1,none⟩=some (M sa2 set2.length sc2)∧w'.cell? ⟨b,off + (k + 1) * 8 + 2,none⟩=some (M ka2 kids2.length kc2)∧w'.cell? ⟨b,off + (k + 1) * 8 + 3,none⟩=some (H J mn2)∧w'.cell? ⟨b,off + (k + 1) * 8 + 4,none⟩=some (H J mx2)∧w'.cell? ⟨b,off + (k + 1) * 8 + 5,none⟩=some (H J mode2)∧w'.cell? ⟨b,off + (k + 1) * 8 + 6,none⟩=some (H J n2)∧w'.cell? ⟨b,off + (k + 1) * 8 + 7,none⟩=some (F neg2))) (fun _ k=> ⟨k.c t2,⟨k.c e0,k.c e1,k.c e2,k.c e3,k.c e4,k.c e5,k.c e6,k.c e7⟩,⟨k.c f0,k.c f1,k.c f2,k.c f3,k.c f4,k.c f5,k.c f6,k.c f7⟩⟩) fun kz hHeld=> ?_;refine tk 0 ?_;refine tk 1 ?_;refine tk 2 ?_;refine tk 3 ?_;refine tk 4 ?_;refine tk 5 ?_;refine tk 6 ?_;refine tk 7 ?_;refine tk 8 ?_;refine tk 9 ?_;refine tk 10 ?_;refine tk 11 ?_;refine j6 12 fun K hK=> ?_;go_simp
   go_at_call 96
   refine Calls.mono (HC.o _ ((HKX.o.trans HKP.o).drew)) ?_;intro e w3 hor
   cases q with
   | false=>
    obtain ⟨rfl,hk3⟩:=hor;have E3:=gi (((Keeps.refl [] wr).drew).trans hk3);clear hk3;refine hK.out _ _ (kz.o _ E3.o) fun hHeld=> ?_;clear hK K;try go_frame
    refine tk 13 ?_;refine tk 14 ?_;refine tk 15 ?_;refine tk 16 ?_;refine tk 17 ?_;refine wd ?_;have HA:=gi (HAL.o rfl);have KR:=gi (HKP.o.trans E3.o);clear t0 t1 t2 t3 t4 t5 t6 t7 e0 e1 e2 e3 e4 e5 e6 e7 f0 f1 f2 f3 f4 f5 f6 f7 hHeld;go_wp2;go_roundw
    case rel=> exact ⟨k + 1,by omega,by go_num,HA.o,KR.o⟩
    case measure=> simp [intOf];omega
   | true=>
    obtain ⟨la,ms,rfl,hml,hmt,hmk,hk3,hmf⟩:=hor;have E3:=gi (((Keeps.refl [] wr).drew).trans hk3);have HMK:=gi hmk;have HMT:=gi hmt;have HML:=gi hml;have HMF:=gi hmf;clear hk3 hml hmt hmk hmf;refine hK.out _ _ (kz.o _ E3.o) fun hHeld=> ?_;clear hK K;try go_frame
    refine tk 13 ?_;refine tk 14 ?_;refine tk 15 ?_;refine tk 16 ?_;refine tk 17 ?_;refine wd ?_;have hRT:=HRS.o rfl;rw [←HMT.o] at hRT;have HRT:=gi (fun (q0:MRe) (h:q0.tree=swapT op (MRe.trees kids) k (k + 2) (MRe.trees ms))=> show R=some q0.tree by rw [hRT,h]);have KC:=gi (HKP.o.trans E3.o);have HADD:=gi (show ∀ x∈MRe.blocksL ms,x∈(MRe.node op sa sc set (some ⟨b,off,none⟩) kc kids mn mx mode n neg).blocks∨B + 2≤x from fun x hx=> by
     rcases HMF.o x hx with h | h
     ·exact .inl (HB0.o x h)
     ·exact .inr (Nat.le_trans HXS.o (Nat.le_trans HKP.o.size h)))
    have hs:=HSW.o _ (HKX.o.trans KC.o) k la ms HMK.o (by omega) (by show k + 2≤kids.length;omega) (by show 0 < kids.length;omega) (by show kids.length + ms.length≤1000000;have:=HML.o;omega);rw [show ((k + 2:Nat):Int)=(k:Int) + 2 by omega,HREP.o] at hs;have HS:=gi hs;obtain ⟨u0,u1,u2,u3,u4,u5,u6,u7⟩:=E3.o.c8 t0 t1 t2 t3 t4 t5 t6 t7;clear hRT hs t0 t1 t2 t3 t4 t5 t6 t7 e0 e1 e2 e3 e4 e5 e6 e7 f0 f1 f2 f3 f4 f5 f6 f7 hHeld;go_wp2_with fail
    refine Calls.mono HS.o ?_;rintro e w8 ⟨q,rfl,hqt,hqo,hk8,hqf⟩;have E8:=gi hk8;have K8:=gi (KC.o.trans hk8);have QT:=gi hqt;have QO:=gi hqo;have QF:=gi hqf;obtain ⟨q0,hq0⟩:∃ q0,q0=q:=⟨_,rfl⟩;rw [←hq0] at QT QO QF;have Q0:=gi hq0;clear hqt hqo hk8 hqf hq0;obtain ⟨op9,sa9,sc9,set9,ka9,kc9,kids9,mn9,mx9,mode9,n9,neg9⟩:=q;simp only [MRe.val];obtain ⟨z0,z1,z2,z3,z4,z5,z6,z7,zf⟩:=zero_cells (K8.o.h HZ.o);clear u0 u1 u2 u3 u4 u5 u6 u7;go_wp2;have hfr:=swap_from QF.o HADD.o (Nat.le_trans HXS.o KC.o.size);rw [Q0.o] at hfr;obtain ⟨hR,hok,hke,hfr2⟩:=rule_store HBE.o HKX.o K8.o HZ.o (by rw [←Q0.o];exact QO.o) hfr HLT.o;refine rt hR ?_;exact RulePost.of_some (.node op9 sa9 sc9 set9 ka9 kc9 kids9 mn9 mx9 mode9 n9 neg9) (by rw [←Q0.o];exact HRT.o q0 QT.o) rfl hok hke hfr2
  ·have hltI:¬ (k:Int) + 1 < (kids.length:Int):=by omega
   have h0:nbO p (MRe.trees kids)=none:=nbO_none fun i hi=> HP.o i hi (by rw [MRe.trees_length] at hi;omega);have HR:=gi (show R=none by rw [HR0.o,h0];rfl);clear h0;obtain ⟨z0,z1,z2,z3,z4,z5,z6,z7,zf,HR2,HK2⟩:=nn HBE.o HKX.o HKP.o HZ.o;go_wp2;refine rt HR2.o ?_;exact RulePost.of_none HR.o rfl HK2.o
theorem rpair10_any (m1 m2:MRe) (w:World) (k1:m1.OK w) (k2:m2.OK w) (f1:m1.tree.WF) (f2:m2.tree.WF) (b1:m1.tree.bulk≤100000) (b2:m2.tree.bulk≤100000):
  Calls Tryz.prog 96 #[H J 10,m1.val,m2.val] w (PairRes w (m1.blocks ++ m2.blocks) (if maybeP m1.tree m2.tree=true then some [m2.tree] else none)):=by
 obtain ⟨R,hR0⟩:∃ R,R=if maybeP m1.tree m2.tree=true then some [m2.tree] else none:=⟨_,rfl⟩;rw [←hR0];obtain ⟨m0,hm0⟩:∃ m0,m0=m1:=⟨_,rfl⟩;obtain ⟨n0,hn0⟩:∃ n0,n0=m2:=⟨_,rfl⟩;rw [←hm0] at k1 f1 b1 hR0;rw [←hn0] at k2 f2 b2 hR0;have HS:=fun (k:MRe) (ko:k.OK w) (kb:k.tree.bulk≤100000) (W:World) (h:Keeps [] w W)=> rstar_any n0 k W (k2.keep h) (ko.keep h) f2 b2 kb;have HN0:=gi k2;have hm1:=hm0;have N0:=gi hn0;obtain ⟨op1,sa1,sc1,set1,ka1,kc1,kids1,mn1,mx1,mode1,n1,neg1⟩:=m1;obtain ⟨op2,sa2,sc2,set2,ka2,kc2,kids2,mn2,mx2,mode2,n2,neg2⟩:=m2;have hso:m0.tree.op=op1:=by rw [hm0];rfl
 replace hR0:R=if ((op1==4 && (mode1==0 && (mn1==0 && mx1==1))) && (starB n0.tree && (eqB (kid0 m0.tree) (kid0 n0.tree) && !nullP (kid0 m0.tree))))=true then some [n0.tree] else none:=by rw [hR0,maybeP,greedyB,hm0];rfl
 have HBL:=gi (show ∀ x∈n0.blocks,x∈(MRe.node op1 sa1 sc1 set1 ka1 kc1 kids1 mn1 mx1 mode1 n1 neg1).blocks ++ (MRe.node op2 sa2 sc2 set2 ka2 kc2 kids2 mn2 mx2 mode2 n2 neg2).blocks by rw [hn0];exact fun x hx=> List.mem_append_right _ hx);simp only [MRe.val]
 by_cases h4:op1=4
 ·by_cases hn:mn1=0
  ·by_cases hx:mx1=1
   ·by_cases ho:mode1=0
    ·obtain ⟨b3,o3,k3,hka3,hk3m,hk3a,hk3o,hg3,hln0,hln⟩:=rep_kid k1 f1 (by rw [hso];exact h4) hm1;have b3':k3.tree.bulk≤100000:=by rw [hm0] at b1;exact (kids_bulk b1).2.2 _ hk3m
     have w3':=(by rw [hm0] at f1;exact wf_kid f1 hk3m:k3.tree.WF);have HS:=HS k3 hk3o b3';have HN:=fun (W:World) (h:Keeps [] w W)=> rnull_any k3 W (hk3o.keep h) w3'.q;rw [hg3,h4,hn,hx,ho,eqB_comm k3.tree] at hR0;obtain ⟨s,hs⟩:∃ s,s=(starB n0.tree && eqB (kid0 n0.tree) k3.tree):=⟨_,rfl⟩;obtain ⟨z,hz⟩:∃ z,z=nullP k3.tree:=⟨_,rfl⟩;replace hR0:R=if (s && !z)=true then some [n0.tree] else none:=by
      rw [hR0,hs,hz];simp [Bool.and_assoc]
     simp only [←hs] at HS;simp only [←hz] at HN;have hv2:n0.val=.agg #[H J op2,M sa2 set2.length sc2,M ka2 kids2.length kc2,H J mn2,H J mx2,H J mode2,H J n2,F neg2]:=by rw [hn0];rfl
     simp only [hv2] at HS;obtain ⟨op3,sa3,sc3,set3,ka3,kc3,kids3,mn3,mx3,mode3,n3,neg3⟩:=k3;have g:=hk3a.node;obtain ⟨e0,e1,e2,e3,e4,e5,e6,e7⟩:=id g;simp only [MRe.val] at HS HN;obtain ⟨B,Y,c0,c1,c2,c3,c4,c5,c6,c7,d0,d1,d2,d3,d4,d5,d6,d7,HYE,HBE,KY⟩:=pre2 w op1 sa1 sc1 set1 ka1 kc1 kids1 mn1 mx1 mode1 n1 neg1 op2 sa2 sc2 set2 ka2 kc2 kids2 mn2 mx2 mode2 n2 neg2;have HD:=gi (show Y.cell? ⟨(B+1),0,none⟩=some (H J op2)∧Y.cell? ⟨(B+1),1,none⟩=some (M sa2 set2.length sc2)∧Y.cell? ⟨(B+1),2,none⟩=some (M ka2 kids2.length kc2)∧Y.cell? ⟨(B+1),3,none⟩=some (H J mn2)∧Y.cell? ⟨(B+1),4,none⟩=some (H J mx2)∧Y.cell? ⟨(B+1),5,none⟩=some (H J mode2)∧Y.cell? ⟨(B+1),6,none⟩=some (H J n2)∧Y.cell? ⟨(B+1),7,none⟩=some (F neg2) from ⟨d0,d1,d2,d3,d4,d5,d6,d7⟩);obtain ⟨x0,x1,x2,x3,x4,x5,x6,x7⟩:=KY.o.c8 e0 e1 e2 e3 e4 e5 e6 e7;have cS:∀ d os,Calls Tryz.prog 133 #[.agg #[H J op2,M sa2 set2.length sc2,M ka2 kids2.length kc2,H J mn2,H J mx2,H J mode2,H J n2,F neg2],.agg #[H J op3,M sa3 set3.length sc3,M ka3 kids3.length kc3,H J mn3,H J mx3,H J mode3,H J n3,F neg3]] (grow (redrawn Y d) os) fun e w''=> e=.returned (F s)∧∃ p:Regrown,w''=grow (redrawn Y p.d) p.os:=fun d os=> Calls.regrown_of ((HS _ (KY.o.trans (Keeps.of_below (below_regrown Y d os)))).mono fun e w' ⟨he,hk⟩=> ⟨he,hk.below (Nat.le_refl _)⟩);have CS:=gi cS;have cN:∀ d os,Calls Tryz.prog 52 #[.agg #[H J op3,M sa3 set3.length sc3,M ka3 kids3.length kc3,H J mn3,H J mx3,H J mode3,H J n3,F neg3]] (grow (redrawn Y d) os) fun e w''=> e=.returned (F z)∧∃ p:Regrown,w''=grow (redrawn Y p.d) p.os:=fun d os=> Calls.regrown_of ((HN _ (KY.o.trans (Keeps.of_below (below_regrown Y d os)))).mono fun e w' ⟨he,hk⟩=> ⟨he,hk.below (Nat.le_refl _)⟩);have CN:=gi cN;have HR0:=gi hR0;subst hka3;subst h4;subst hn;subst hx;subst ho;clear cS cN HS HN hs hz hso e0 e1 e2 e3 e4 e5 e6 e7 g k1 k2 f1 f2 b1 b2 hm0 hm1 hn0 hv2 hk3m hk3a hk3o hg3 b3' w3' hR0
     cases s with
     | false=>
      have HR:=gi (show R=none by rw [HR0.o];simp);go_enter Tryz.func96,Tryz.ntmps96
      go_upto_region 1 with fail
      rw [←HYE.o,←HBE.o];go_upto_region 3 with fail
      go_cut [10] (fun s10 wx=> ∃ cc:Bool,s10=F cc∧Y=wx)
      case first=>
       go_wp2;go_meet;exact ⟨_,rfl,rfl⟩
      obtain ⟨cc,rfl,rfl⟩:=hcut;go_upto_region 18 with fail
      have u0:=cell_regrown c0;have u1:=cell_regrown c1;have u2:=cell_regrown c2;have u3:=cell_regrown c3;have u4:=cell_regrown c4;have u5:=cell_regrown c5;have u6:=cell_regrown c6;have u7:=cell_regrown c7;have v0:=cell_regrown d0;have v1:=cell_regrown d1;have v2:=cell_regrown d2;have v3:=cell_regrown d3;have v4:=cell_regrown d4;have v5:=cell_regrown d5;have v6:=cell_regrown d6;have v7:=cell_regrown d7;have y0:=cell_regrown x0;have y1:=cell_regrown x1;have y2:=cell_regrown x2;have y3:=cell_regrown x3;have y4:=cell_regrown x4;have y5:=cell_regrown x5;have y6:=cell_regrown x6;have y7:=cell_regrown x7;clear c0 c1 c2 c3 c4 c5 c6 c7 d0 d1 d2 d3 d4 d5 d6 d7 x0 x1 x2 x3 x4 x5 x6 x7;refine wp_region_quiet_below (by kernel_rfl) (by kernel_rfl) ?_
      repeat (go_big_quiet_step (exact CS.o _ _))
      refine wpQuiet_nil ?_;intro _ hw';obtain ⟨pq,hw''⟩:=hw';subst hw'';have hk:=Keeps.of_below (below_regrown Y pq.d pq.os);have HKZ:=gi hk;have HK:=gi (KY.o.trans hk);clear hk u0 u1 u2 u3 u4 u5 u6 u7 v0 v1 v2 v3 v4 v5 v6 v7 y0 y1 y2 y3 y4 y5 y6 y7
      generalize grow (redrawn Y pq.d) pq.os=Z at *
      go_wp2
      go_ret2
      exact PairRes.of_none HR.o rfl HK.o
     | true=>
      cases z with
      | true=>
       have HR:=gi (show R=none by rw [HR0.o];simp);go_enter Tryz.func96,Tryz.ntmps96
       go_upto_region 1 with fail
       rw [←HYE.o,←HBE.o];go_upto_region 3 with fail
       go_cut [10] (fun s10 wx=> ∃ cc:Bool,s10=F cc∧Y=wx)
       case first=>
        go_wp2;go_meet;exact ⟨_,rfl,rfl⟩
       obtain ⟨cc,rfl,rfl⟩:=hcut;go_upto_region 18 with fail
       have u0:=cell_regrown c0;have u1:=cell_regrown c1;have u2:=cell_regrown c2;have u3:=cell_regrown c3;have u4:=cell_regrown c4;have u5:=cell_regrown c5;have u6:=cell_regrown c6;have u7:=cell_regrown c7;have v0:=cell_regrown d0;have v1:=cell_regrown d1;have v2:=cell_regrown d2;have v3:=cell_regrown d3;have v4:=cell_regrown d4;have v5:=cell_regrown d5;have v6:=cell_regrown d6;have v7:=cell_regrown d7;have y0:=cell_regrown x0;have y1:=cell_regrown x1;have y2:=cell_regrown x2;have y3:=cell_regrown x3;have y4:=cell_regrown x4;have y5:=cell_regrown x5;have y6:=cell_regrown x6;have y7:=cell_regrown x7;clear c0 c1 c2 c3 c4 c5 c6 c7 d0 d1 d2 d3 d4 d5 d6 d7 x0 x1 x2 x3 x4 x5 x6 x7;refine wp_region_quiet_below (by kernel_rfl) (by kernel_rfl) ?_
       repeat (go_big_quiet_step (first | exact CS.o _ _ | exact CN.o _ _))
       refine wpQuiet_nil ?_;intro _ hw';obtain ⟨pq,hw''⟩:=hw';subst hw'';have hk:=Keeps.of_below (below_regrown Y pq.d pq.os);have HKZ:=gi hk;have HK:=gi (KY.o.trans hk);clear hk u0 u1 u2 u3 u4 u5 u6 u7 v0 v1 v2 v3 v4 v5 v6 v7 y0 y1 y2 y3 y4 y5 y6 y7
       generalize grow (redrawn Y pq.d) pq.os=Z at *
       go_wp2
       go_ret2
       exact PairRes.of_none HR.o rfl HK.o
      | false=>
       have HR:=gi (show R=some [n0.tree] by rw [HR0.o];simp);go_enter Tryz.func96,Tryz.ntmps96
       go_upto_region 1 with fail
       rw [←HYE.o,←HBE.o];go_upto_region 3 with fail
       go_cut [10] (fun s10 wx=> ∃ cc:Bool,s10=F cc∧Y=wx)
       case first=>
        go_wp2;go_meet;exact ⟨_,rfl,rfl⟩
       obtain ⟨cc,rfl,rfl⟩:=hcut;go_upto_region 18 with fail
       have u0:=cell_regrown c0;have u1:=cell_regrown c1;have u2:=cell_regrown c2;have u3:=cell_regrown c3;have u4:=cell_regrown c4;have u5:=cell_regrown c5;have u6:=cell_regrown c6;have u7:=cell_regrown c7;have v0:=cell_regrown d0;have v1:=cell_regrown d1;have v2:=cell_regrown d2;have v3:=cell_regrown d3;have v4:=cell_regrown d4;have v5:=cell_regrown d5;have v6:=cell_regrown d6;have v7:=cell_regrown d7;have y0:=cell_regrown x0;have y1:=cell_regrown x1;have y2:=cell_regrown x2;have y3:=cell_regrown x3;have y4:=cell_regrown x4;have y5:=cell_regrown x5;have y6:=cell_regrown x6;have y7:=cell_regrown x7;clear c0 c1 c2 c3 c4 c5 c6 c7 d0 d1 d2 d3 d4 d5 d6 d7 x0 x1 x2 x3 x4 x5 x6 x7;refine wp_region_quiet_below (by kernel_rfl) (by kernel_rfl) ?_
       repeat (go_big_quiet_step (first | exact CS.o _ _ | exact CN.o _ _))
       refine wpQuiet_nil ?_;intro _ hw';obtain ⟨pq,hw''⟩:=hw';subst hw'';have hk:=Keeps.of_below (below_regrown Y pq.d pq.os);have HKZ:=gi hk;have HK:=gi (KY.o.trans hk);clear hk u0 u1 u2 u3 u4 u5 u6 u7 v0 v1 v2 v3 v4 v5 v6 v7 y0 y1 y2 y3 y4 y5 y6 y7
       generalize grow (redrawn Y pq.d) pq.os=Z at *
       obtain ⟨d0,d1,d2,d3,d4,d5,d6,d7⟩:=HD.o;obtain ⟨v0,v1,v2,v3,v4,v5,v6,v7⟩:=HKZ.o.c8 d0 d1 d2 d3 d4 d5 d6 d7;clear d0 d1 d2 d3 d4 d5 d6 d7;go_wp2
       go_ret2
       exact PairRes.of_some (some ⟨Z.heap.size,0,none⟩) n0 HR.o rfl rfl (lone_in (HN0.o.keep HK.o) _ (by rw [N0.o];rfl)) (HK.o.trans (Keeps.a1 _ _)) (From.of_mem HBL.o)
    ·have HKP:=HN0;have hbx:(mode1==0)=false:=by simpa using ho
     have HR:=gi (show R=none by rw [hR0,hbx];simp);clear hR0 HS HN0 hm0 hm1 hn0 k1 k2 f1 f2 b1 b2 hso;obtain ⟨B,Y,c0,c1,c2,c3,c4,c5,c6,c7,d0,d1,d2,d3,d4,d5,d6,d7,HYE,HBE,KY⟩:=pre2 w op1 sa1 sc1 set1 ka1 kc1 kids1 mn1 mx1 mode1 n1 neg1 op2 sa2 sc2 set2 ka2 kc2 kids2 mn2 mx2 mode2 n2 neg2;subst h4;subst hn;subst hx;go_enter Tryz.func96,Tryz.ntmps96
     go_upto_region 1 with fail
     rw [←HYE.o,←HBE.o];go_upto_region 3 with fail
     go_cut [10] (fun s10 wx=> ∃ cc:Bool,s10=F cc∧Y=wx)
     case first=>
      go_wp2;go_meet;exact ⟨_,rfl,rfl⟩
     obtain ⟨cc,rfl,rfl⟩:=hcut;go_upto_region 18 with fail
     go_quiet (fail)
     go_wp2
     go_ret2
     exact PairRes.of_none HR.o rfl (KY.o.drewN _)
   ·have HKP:=HN0;have hbx:(mx1==1)=false:=by simpa using hx
    have HR:=gi (show R=none by rw [hR0,hbx];simp);clear hR0 HS HN0 hm0 hm1 hn0 k1 k2 f1 f2 b1 b2 hso;obtain ⟨B,Y,c0,c1,c2,c3,c4,c5,c6,c7,d0,d1,d2,d3,d4,d5,d6,d7,HYE,HBE,KY⟩:=pre2 w op1 sa1 sc1 set1 ka1 kc1 kids1 mn1 mx1 mode1 n1 neg1 op2 sa2 sc2 set2 ka2 kc2 kids2 mn2 mx2 mode2 n2 neg2;subst h4;subst hn;go_enter Tryz.func96,Tryz.ntmps96
    go_upto_region 1 with fail
    rw [←HYE.o,←HBE.o];go_upto_region 3 with fail
    go_cut [10] (fun s10 wx=> ∃ cc:Bool,s10=F cc∧Y=wx)
    case first=>
     go_wp2;go_meet;exact ⟨_,rfl,rfl⟩
    obtain ⟨cc,rfl,rfl⟩:=hcut;go_upto_region 18 with fail
    go_quiet (fail)
    go_wp2
    go_ret2
    exact PairRes.of_none HR.o rfl (KY.o.drewN _)
  ·have HKP:=HN0;have hbx:(mn1==0)=false:=by simpa using hn
   have HR:=gi (show R=none by rw [hR0,hbx];simp);clear hR0 HS HN0 hm0 hm1 hn0 k1 k2 f1 f2 b1 b2 hso;obtain ⟨B,Y,c0,c1,c2,c3,c4,c5,c6,c7,d0,d1,d2,d3,d4,d5,d6,d7,HYE,HBE,KY⟩:=pre2 w op1 sa1 sc1 set1 ka1 kc1 kids1 mn1 mx1 mode1 n1 neg1 op2 sa2 sc2 set2 ka2 kc2 kids2 mn2 mx2 mode2 n2 neg2;subst h4;go_enter Tryz.func96,Tryz.ntmps96
   go_upto_region 1 with fail
   rw [←HYE.o,←HBE.o];go_upto_region 3 with fail
   go_cut [10] (fun s10 wx=> ∃ cc:Bool,s10=F cc∧Y=wx)
   case first=>
    go_wp2;go_meet;exact ⟨_,rfl,rfl⟩
   obtain ⟨cc,rfl,rfl⟩:=hcut;go_upto_region 18 with fail
   go_quiet (fail)
   go_wp2
   go_ret2
   exact PairRes.of_none HR.o rfl (KY.o.drewN _)
 ·have HKP:=HN0;have hbx:(op1==4)=false:=by simpa using h4
  have HR:=gi (show R=none by rw [hR0,hbx];simp);clear hR0 HS HN0 hm0 hm1 hn0 k1 k2 f1 f2 b1 b2 hso;obtain ⟨B,Y,c0,c1,c2,c3,c4,c5,c6,c7,d0,d1,d2,d3,d4,d5,d6,d7,HYE,HBE,KY⟩:=pre2 w op1 sa1 sc1 set1 ka1 kc1 kids1 mn1 mx1 mode1 n1 neg1 op2 sa2 sc2 set2 ka2 kc2 kids2 mn2 mx2 mode2 n2 neg2;go_enter Tryz.func96,Tryz.ntmps96
  go_upto_region 1 with fail
  rw [←HYE.o,←HBE.o];go_upto_region 3 with fail
  go_cut [10] (fun s10 wx=> ∃ cc:Bool,s10=F cc∧Y=wx)
  case first=>
   by_cases z2:op1=2
   ·by_cases z3:op2=2
    ·subst z2;subst z3;go_wp2;go_meet;exact ⟨_,rfl,rfl⟩
    ·have z3b:(op2==2)=false:=by simpa using z3
     subst z2;go_wp2;go_meet;exact ⟨_,rfl,rfl⟩
   ·have z2b:(op1==2)=false:=by simpa using z2
    go_wp2;go_meet;exact ⟨_,rfl,rfl⟩
  obtain ⟨cc,rfl,rfl⟩:=hcut;go_upto_region 18 with fail
  go_quiet (fail)
  go_wp2
  go_ret2
  exact PairRes.of_none HR.o rfl (KY.o.drewN _)
end Go.Proofs.YtjnlkjlbejelgaaGreat
