/- Part 33 of the proof. No condition: every lemma says its own. -/
import Derived.Test.YtjnlkjlbejelgaaGreatLbe
import Derived.Test.YtjnlkjlbejelgaaGreatLaq
import Derived.Test.YtjnlkjlbejelgaaGreatLbf
import Derived.Test.YtjnlkjlbejelgaaGreatLar
import Derived.Test.YtjnlkjlbejelgaaGreatLai
import Derived.Test.YtjnlkjlbejelgaaGreatLbd
import Derived.Test.YtjnlkjlbejelgaaGreatLah
import Derived.Test.YtjnlkjlbejelgaaGreatLao
import Derived.Test.YtjnlkjlbejelgaaGreatLan
import Derived.Test.YtjnlkjlbejelgaaGreatLak
import Derived.Test.YtjnlkjlbejelgaaGreatLbc
import Derived.Test.YtjnlkjlbejelgaaGreatLas
namespace Go.Proofs.YtjnlkjlbejelgaaGreat
open Go.RowKit
open Go.Value renaming int→H,slice→M,bool→F
open Go.IntKind renaming i64→J
set_option maxRecDepth 100000
set_option maxHeartbeats 16000000
def tailR (t:Tree):Option Tree:=(pairO tailP 3 t).map fun i=> swapT t.op t.kids i (i + 2)
 [mkT 2 [mkT 3 [naryT 2 ((t.kids.getD i .nil).kids.take ((t.kids.getD i .nil).kids.length - 1)),naryT 2 ((t.kids.getD (i + 1) .nil).kids.take ((t.kids.getD (i + 1) .nil).kids.length - 1))],lastT (t.kids.getD i .nil)]]
theorem tail_any (m:MRe) (w:World) (k1:m.OK w) (f1:m.tree.WF) (hb:m.tree.bulk≤100000):
  Calls Tryz.prog 82 #[m.val] w (RulePost w m.blocks (tailR m.tree)):=by
 obtain ⟨R,hR0⟩:∃ R,R=tailR m.tree:=⟨_,rfl⟩;rw [←hR0];have HP:=gi (pair_test 122 tailP 3 m w k1 f1 enters_tail1 (fun a b V ha hb fa fb=> tail1_any a b V ha hb fa fb));have HSW:=gi (fun (W:World) (i:Nat) (la:Option Addr) (l:MRe)=> swap_any m i (i + 2) la 1 [l] W);have HLT:=gi k1.block_lt;unfold tailR at hR0;obtain ⟨po,hpo⟩:∃ po,po=pairO tailP 3 m.tree:=⟨_,rfl⟩;rw [←hpo] at HP hR0;obtain ⟨op,sa,sc,set,ka,kc,kids,mn,mx,mode,n,neg⟩:=m;have HBK:=gi (kids_bulk hb).1;obtain ⟨B,X,HBE,HXE,HC,HZ,hsz,HKX⟩:=pre0 w op sa sc set ka kc kids mn mx mode n neg;have HXS:=gi hsz;have K1:=gi k1;simp only [MRe.val]
 cases po with
 | none=>
  have HR:=gi (show R=none from hR0);clear hR0 hpo hsz hb k1 f1;obtain ⟨c0,c1,c2,c3,c4,c5,c6,c7⟩:=HC.o.cells0;go_enter Tryz.func82,Tryz.ntmps82
  go_upto_region 1 with fail
  rw [←HXE.o,←HBE.o];go_wp2_with fail
  refine Calls.mono (HP.o _ HKX.o) ?_;intro e w2 hor;obtain ⟨⟨x,rfl⟩,hk2⟩:=hor;have K2:=gi hk2;clear hk2;obtain ⟨z0,z1,z2,z3,z4,z5,z6,z7,zf,HR2,HK2⟩:=nn HBE.o HKX.o K2.o HZ.o;go_wp2;refine rt HR2.o ?_;exact RulePost.of_none HR.o rfl HK2.o
 | some i=>
  obtain ⟨_,hlt,htp⟩:=pairO_some hpo.symm;replace hlt:i + 1 < (MRe.trees kids).length:=hlt;replace htp:tailP ((MRe.trees kids).getD i .nil) ((MRe.trees kids).getD (i + 1) .nil)=true:=htp;rw [MRe.trees_length] at hlt;have hgi:(MRe.trees kids).getD i .nil=(kids[i]'(by omega)).tree:=by rw [List.getD_eq_getElem?_getD,List.getElem?_eq_getElem (by rw [MRe.trees_length];omega),Option.getD_some,trees_getElem]
  have hgj:(MRe.trees kids).getD (i + 1) .nil=(kids[i + 1]'(by omega)).tree:=by rw [List.getD_eq_getElem?_getD,List.getElem?_eq_getElem (by rw [MRe.trees_length];omega),Option.getD_some,trees_getElem]
  replace hR0:R=some (swapT op (MRe.trees kids) i (i + 2) [mkT 2 [mkT 3 [naryT 2 (((MRe.trees kids).getD i .nil).kids.take (((MRe.trees kids).getD i .nil).kids.length - 1)),naryT 2 (((MRe.trees kids).getD (i + 1) .nil).kids.take (((MRe.trees kids).getD (i + 1) .nil).kids.length - 1))],lastT ((MRe.trees kids).getD i .nil)]]):=hR0;rw [hgi,hgj] at hR0 htp;obtain ⟨b,off,rfl,hbb,hx⟩:=k1.nodes.kid (by omega);have ha:=hx i (by omega);have hb':=hx (i + 1) hlt;have hao:=k1.kid (List.getElem_mem (n:=i) (by omega));have hbo:=k1.kid (List.getElem_mem (n:=i + 1) hlt);have haf:=wf_kid f1 (List.getElem_mem (n:=i) (by omega));have hbf:=wf_kid f1 (List.getElem_mem (n:=i + 1) hlt);have hablk:=blocks_kid (op:=op) (sa:=sa) (sc:=sc) (set:=set) (ka:=some ⟨b,off,none⟩) (kc:=kc) (mn:=mn) (mx:=mx) (mode:=mode) (n:=n) (neg:=neg) (List.getElem_mem (l:=kids) (n:=i) (by omega));have hbblk:=blocks_kid (op:=op) (sa:=sa) (sc:=sc) (set:=set) (ka:=some ⟨b,off,none⟩) (kc:=kc) (mn:=mn) (mx:=mx) (mode:=mode) (n:=n) (neg:=neg) (List.getElem_mem (l:=kids) (n:=i + 1) hlt);clear hgi hgj hx
  generalize kids[i]=a at *
  generalize kids[i + 1]=c at *
  obtain ⟨op1,sa1,sc1,set1,ka1,kc1,kids1,mn1,mx1,mode1,n1,neg1⟩:=a;obtain ⟨op2,sa2,sc2,set2,ka2,kc2,kids2,mn2,mx2,mode2,n2,neg2⟩:=c;simp only [tailP,Bool.and_eq_true,beq_iff_eq] at htp;have h1:op1=2:=htp.1;have h2:op2=2:=htp.2.1;obtain ⟨b1,o1,l1,a0,hka1,hl1,ham,ha0,ha0o,hlast,i1,i2,i3,i4,i5,_⟩:=last_kid hao ((wf_node haf).htwo (.inl h1));obtain ⟨b2,o2,l2,c0,hka2,hl2,_,_,_,_,j1,j2,j3,j4,j5,_⟩:=last_kid hbo ((wf_node hbf).htwo (.inl h2));subst h1;subst h2;subst hka1;subst hka2;have hcap1:=hao.nodes.cap;have hcap2:=hbo.nodes.cap;have hle1:=hao.nodes.le;have hle2:=hbo.nodes.le;unfold maxLen at hcap1 hcap2;have htl1:(kids1.take l1).length=l1:=by rw [List.length_take];omega
  have htl2:(kids2.take l2).length=l2:=by rw [List.length_take];omega
  have hk1:KidsIn w (some ⟨b1,o1,none⟩) kc1 (kids1.take l1):=⟨hao.nodes.take l1,fun x hx=> hao.kid (List.mem_of_mem_take hx)⟩;have hk2:KidsIn w (some ⟨b2,o2,none⟩) kc2 (kids2.take l2):=⟨hbo.nodes.take l2,fun x hx=> hbo.kid (List.mem_of_mem_take hx)⟩;have hn1:=fun (W:World) (h:Keeps [] w W)=> nary_any 2 (some ⟨b1,o1,none⟩) kc1 (kids1.take l1) W (hk1.keep h);have hn2:=fun (W:World) (h:Keeps [] w W)=> nary_any 2 (some ⟨b2,o2,none⟩) kc2 (kids2.take l2) W (hk2.keep h);rw [htl1] at hn1;rw [htl2] at hn2;have hs1:∀ W:World,(Instr.sliceAt 24 (M (some ⟨b1,o1,none⟩) kids1.length kc1) none (some (H J l1)) none).run Tryz.prog W=.ok (M (some ⟨b1,o1,none⟩) l1 kc1) W:=by
   intro W;have q1:(l1:Int)≤kc1:=by omega
   simp [go_sem,q1]
  have hs2:∀ W:World,(Instr.sliceAt 24 (M (some ⟨b2,o2,none⟩) kids2.length kc2) none (some (H J l2)) none).run Tryz.prog W=.ok (M (some ⟨b2,o2,none⟩) l2 kc2) W:=by
   intro W;have q1:(l2:Int)≤kc2:=by omega
   simp [go_sem,q1]
  have hR3:R=some (swapT op (MRe.trees kids) i (i + 2) [mkT 2 [mkT 3 [naryT 2 (MRe.trees (kids1.take l1)),naryT 2 (MRe.trees (kids2.take l2))],a0.tree]]):=by
   rw [hR0,hlast];have e1:(MRe.tree (.node 2 sa1 sc1 set1 (some ⟨b1,o1,none⟩) kc1 kids1 mn1 mx1 mode1 n1 neg1)).kids=MRe.trees kids1:=rfl;have e2:(MRe.tree (.node 2 sa2 sc2 set2 (some ⟨b2,o2,none⟩) kc2 kids2 mn2 mx2 mode2 n2 neg2)).kids=MRe.trees kids2:=rfl;rw [e1,e2,MRe.trees_length,MRe.trees_length,hl1,hl2,Nat.add_sub_cancel,Nat.add_sub_cancel,trees_take,trees_take]
  have HRT:=gi (fun (q0:MRe) (h:q0.tree=swapT op (MRe.trees kids) i (i + 2) [mkT 2 [mkT 3 [naryT 2 (MRe.trees (kids1.take l1)),naryT 2 (MRe.trees (kids2.take l2))],a0.tree]])=> show R=some q0.tree by rw [hR3,h]);have hblk0:∀ q∈a0.blocks,q∈(MRe.node op sa sc set (some ⟨b,off,none⟩) kc kids mn mx mode n neg).blocks:=fun q hq=> hablk q (blocks_kid ham q hq);have hblk1:∀ q∈blockIf l1 (some ⟨b1,o1,none⟩) ++ MRe.blocksL (kids1.take l1),q∈(MRe.node op sa sc set (some ⟨b,off,none⟩) kc kids mn mx mode n neg).blocks:=fun q hq=> by
   apply hablk
   simp only [MRe.blocks,List.mem_append]
   rcases List.mem_append.1 hq with h | h
   ·refine .inr (.inl ?_);unfold blockIf at h ⊢;rw [if_neg (by omega)]
    split at h
    ·simp at h
    ·simpa using h
   ·obtain ⟨y,hy,hqy⟩:=MRe.blocksL_mem h;exact .inr (.inr (MRe.mem_blocksL (List.mem_of_mem_take hy) hqy))
  have hblk2:∀ q∈blockIf l2 (some ⟨b2,o2,none⟩) ++ MRe.blocksL (kids2.take l2),q∈(MRe.node op sa sc set (some ⟨b,off,none⟩) kc kids mn mx mode n neg).blocks:=fun q hq=> by
   apply hbblk
   simp only [MRe.blocks,List.mem_append]
   rcases List.mem_append.1 hq with h | h
   ·refine .inr (.inl ?_);unfold blockIf at h ⊢;rw [if_neg (by omega)]
    split at h
    ·simp at h
    ·simpa using h
   ·obtain ⟨y,hy,hqy⟩:=MRe.blocksL_mem h;exact .inr (.inr (MRe.mem_blocksL (List.mem_of_mem_take hy) hqy))
  have HB0:=gi hblk0;have HB1:=gi hblk1;have HB2:=gi hblk2;have HA0:=gi ha0o;have HAA:=gi ha0;have HN1:=gi hn1;have HN2:=gi hn2;have p2:=HKX.o.cell ha.node.c2 (by simp);have r2:=HKX.o.cell hb'.node.c2 (by simp);have hi0:(0:Int)≤(i:Int):=by omega
  have hi1:(i:Int) < (kids.length:Int):=by omega
  have hi2:(0:Int)≤(i:Int) + 1:=by omega
  have hi3:(i:Int) + 1 < (kids.length:Int):=by omega
  have hi4:((i:Int) + 1).toNat=i + 1:=by omega
  have hn0:i < kids.length:=by omega
  have hw1:IntKind.i64.wrap ((i:Int) + 1)=(i:Int) + 1:=IntWalk.i64_in _ (by have:=HBK.o;omega);have hw2:IntKind.i64.wrap ((i:Int) + 2)=(i:Int) + 2:=IntWalk.i64_in _ (by have:=HBK.o;omega);obtain ⟨a00,ha00⟩:∃ a00,a00=a0:=⟨_,rfl⟩;rw [←ha00] at HRT HB0 HA0;have A00:=gi ha00;have HLT2:=gi hlt;clear hsz hb k1 f1 hR0 hR3 hpo htp ha hb' hao hbo haf hbf hablk hbblk ham ha0 ha0o hlast hcap1 hcap2 hle1 hle2 htl1 htl2 hk1 hk2 hn1 hn2 hblk0 hblk1 hblk2 ha00 hl1 hl2 i5 j5;obtain ⟨c0,c1,c2,c3,c4,c5,c6,c7⟩:=HC.o.cells0;go_enter Tryz.func82,Tryz.ntmps82
  go_upto_region 1 with fail
  rw [←HXE.o,←HBE.o];go_wp2_with fail
  refine Calls.mono (HP.o _ HKX.o) ?_;intro e w2 hor;obtain ⟨rfl,hk2⟩:=hor;have x2:=hk2.c c2;have p2':=hk2.c p2;have r2':=hk2.c r2;have HK2:=gi hk2;clear hk2 c0 c1 c2 c3 c4 c5 c6 c7 p2 r2 HP;go_wp2
  go_quiet (fail)
  have HK3:=gi (HK2.o.drewN nq);clear x2 p2' r2' HK2
  generalize w2.drewN nq=Y at *
  have HKY:=gi (HKX.o.trans HK3.o);go_upto_region 6 with fail
  go_cut [10] (fun s10 wx=> ∃ W6,W6=wx∧RestAt Y (MRe.node op sa sc set (some ⟨b,off,none⟩) kc kids mn mx mode n neg).blocks (B + 2) (mkT 3 [naryT 2 (MRe.trees (kids1.take l1)),naryT 2 (MRe.trees (kids2.take l2))]) s10 wx)
  case first=>
   go_region_held3 (fun _=> True) (exact trivial)
    (first
     | (go_at_call_of 121 b1;with_reducible refine Calls.mono (HN1.o _ (HKY.o.trans (by first | exact (Keeps.refl [] Y).drew | exact (Keeps.a1 Y _).drew | exact ((Keeps.refl [] Y).drew).alloc _))) ?_;rintro e w4 ⟨s1,rfl,ht1,ho1,hk4,hbl1⟩;have K4:=gi (show Keeps [] Y w4 from Keeps.trans (by first | exact (Keeps.refl [] Y).drew | exact (Keeps.a1 Y _).drew) hk4);have H4:=gi hk4;have T1:=gi ht1;have O1:=gi ho1;have L1:=gi hbl1;obtain ⟨s10,hs10⟩:∃ s10,s10=s1:=⟨_,rfl⟩;rw [←hs10] at T1 O1 L1;have S1:=gi hs10;(try (with_reducible have ZC4:=gi (hk4.heap (alloc_drew_heap Y (.cells #[H J 0,M none 0 0,M none 0 0,H J 0,H J 0,H J 0,H J 0,F false] 26)) (by simp))));(try (with_reducible have z4:=zero_cells2 (hk4.heap (alloc_drew_heap Y (.cells #[H J 0,M none 0 0,M none 0 0,H J 0,H J 0,H J 0,H J 0,F false] 26)) (by simp))));clear ht1 ho1 hk4 hbl1 hs10;obtain ⟨op5,sa5,sc5,set5,ka5,kc5,kids5,mn5,mx5,mode5,n5,neg5⟩:=s1;simp only [MRe.val])
     | (go_at_call_of 121 b2;with_reducible refine Calls.mono (HN2.o _ (HKY.o.trans (by first | exact (K4.o.trans (Keeps.a1 w4 _)) | exact K4.o))) ?_;rintro e w5 ⟨s2,rfl,ht2,ho2,hk5,hbl2⟩;have K5:=gi (show Keeps [] w4 w5 from Keeps.trans (by first | exact Keeps.refl [] w4 | exact Keeps.a1 w4 _) hk5);have T2:=gi ht2;have O2:=gi ho2;have L2:=gi hbl2;obtain ⟨s20,hs20⟩:∃ s20,s20=s2:=⟨_,rfl⟩;rw [←hs20] at T2 O2 L2;have S2:=gi hs20;(try (have ZG:=gi (hk5.h ZC4.o)));(try (with_reducible have ZG:=gi (hk5.heap (heap_alloc_new w4 (.cells #[H J 0,M none 0 0,M none 0 0,H J 0,H J 0,H J 0,H J 0,F false] 26)) (by simp))));(try (with_reducible have z5:=zero_cells2 (hk5.heap (H4.o.heap (alloc_drew_heap Y (.cells #[H J 0,M none 0 0,M none 0 0,H J 0,H J 0,H J 0,H J 0,F false] 26)) (by simp)) (by simp))));(try (with_reducible have z5b:=zero_cells2 (hk5.heap (heap_alloc_new w4 (.cells #[H J 0,M none 0 0,M none 0 0,H J 0,H J 0,H J 0,H J 0,F false] 26)) (by simp))));clear ht2 ho2 hk5 hbl2 hs20;obtain ⟨op6,sa6,sc6,set6,ka6,kc6,kids6,mn6,mx6,mode6,n6,neg6⟩:=s2;simp only [MRe.val]))
   all_goals
    go_wp2;go_meet;have hrow:∀ z,z=(#[H J op5,M sa5 set5.length sc5,M ka5 kids5.length kc5,H J mn5,H J mx5,H J mode5,H J n5,F neg5,H J op6,M sa6 set6.length sc6,M ka6 kids6.length kc6,H J mn6,H J mx6,H J mode6,H J n6,F neg6]:Array Value)→z.toList=flatK [s10,s20]:=fun z hz=> by rw [hz,S1.o,S2.o];rfl
    have hH:RestHyp Y w4 w5 (MRe.node op sa sc set (some ⟨b,off,none⟩) kc kids mn mx mode n neg).blocks (B + 2) s10 s20 _ _:=⟨K4.o,K5.o,O1.o,O2.o,fun q hq=> HB1.o q (L1.o q hq),fun q hq=> HB2.o q (L2.o q hq),fun q hq=> Nat.lt_of_lt_of_le (HLT.o q hq) HKY.o.size,Nat.le_trans HXS.o HK3.o.size,T1.o,T2.o⟩;refine ⟨_,rfl,?_⟩
    with_reducible first
     | exact rest_A hH _ (hrow _ rfl)
     | exact rest_A' hH _ (hrow _ rfl)
     | exact rest_B hH _ (hrow _ rfl) ZG.o (Nat.le_refl _)
     | exact rest_B hH _ (hrow _ rfl) ZG.o K4.o.size
  case rest=>
   obtain ⟨W6,rfl,g,r,rfl,hat,hrok,hrt,hkr,hlo,hfr⟩:=hcut;have K6:=gi (HK3.o.trans hkr);obtain ⟨c0,c1,c2,c3,c4,c5,c6,c7⟩:=(HC.o.keep K6.o).cells0;obtain ⟨r00,hr00⟩:∃ r00,r00=r:=⟨_,rfl⟩;rw [←hr00] at hrok hrt hfr;have HRO:=gi hrok;have HRTT:=gi hrt;have HFR:=gi hfr;have R00:=gi hr00;have haaW:=HAA.o.keep (HKX.o.trans K6.o);obtain ⟨op7,sa7,sc7,set7,ka7,kc7,kids7,mn7,mx7,mode7,n7,neg7⟩:=a0;obtain ⟨opy,say,scy,sety,kay,kcy,kidsy,mny,mxy,modey,ny,negy⟩:=r;obtain ⟨d0,d1,d2,d3,d4,d5,d6,d7⟩:=haaW.cellsO;obtain ⟨f0,f1,f2,f3,f4,f5,f6,f7⟩:=hat.cells0;have hgB:¬ g=B + 1:=by omega
   have HGB:=gi hgB;have hb1B:b1 < B:=by rw [HBE.o];exact World.block_lt_of_cell? w _ HAA.o.node.c0
   have HBB:=gi hb1B;clear hrok hrt hfr hr00 haaW hat hkr hgB hb1B hlo;obtain ⟨D,hD⟩:∃ D,D=W6.drew:=⟨_,rfl⟩;have KD:=gi (show Keeps [] W6 D by rw [hD];exact (Keeps.refl [] W6).drew);go_wp2;refine rg (S:=fun w'=> (w'.cell? ⟨B,0,none⟩=some (H J op)∧w'.cell? ⟨B,1,none⟩=some (M sa set.length sc)∧w'.cell? ⟨B,2,none⟩=some (M (some ⟨b,off,none⟩) kids.length kc)∧w'.cell? ⟨B,3,none⟩=some (H J mn)∧w'.cell? ⟨B,4,none⟩=some (H J mx)∧w'.cell? ⟨B,5,none⟩=some (H J mode)∧w'.cell? ⟨B,6,none⟩=some (H J n)∧w'.cell? ⟨B,7,none⟩=some (F neg))∧(w'.cell? ⟨b1,o1 + l1 * 8,none⟩=some (H J op7)∧w'.cell? ⟨b1,o1 + l1 * 8 + 1,none⟩=some (M sa7 set7.length sc7)∧w'.cell? ⟨b1,o1 + l1 * 8 + 2,none⟩=some (M ka7 kids7.length kc7)∧w'.cell? ⟨b1,o1 + l1 * 8 + 3,none⟩=some (H J mn7)∧w'.cell? ⟨b1,o1 + l1 * 8 + 4,none⟩=some (H J mx7)∧w'.cell? ⟨b1,o1 + l1 * 8 + 5,none⟩=some (H J mode7)∧w'.cell? ⟨b1,o1 + l1 * 8 + 6,none⟩=some (H J n7)∧w'.cell? ⟨b1,o1 + l1 * 8 + 7,none⟩=some (F neg7))∧(w'.cell? ⟨g,0,none⟩=some (H J opy)∧w'.cell? ⟨g,1,none⟩=some (M say sety.length scy)∧w'.cell? ⟨g,2,none⟩=some (M kay kidsy.length kcy)∧w'.cell? ⟨g,3,none⟩=some (H J mny)∧w'.cell? ⟨g,4,none⟩=some (H J mxy)∧w'.cell? ⟨g,5,none⟩=some (H J modey)∧w'.cell? ⟨g,6,none⟩=some (H J ny)∧w'.cell? ⟨g,7,none⟩=some (F negy))) (fun _ k=> ⟨⟨k.c c0,k.c c1,k.c c2,k.c c3,k.c c4,k.c c5,k.c c6,k.c c7⟩,⟨k.c d0,k.c d1,k.c d2,k.c d3,k.c d4,k.c d5,k.c d6,k.c d7⟩,⟨k.c f0,k.c f1,k.c f2,k.c f3,k.c f4,k.c f5,k.c f6,k.c f7⟩⟩) fun kz hHeld=> ?_;rw [←hD] at hHeld ⊢;clear hD;refine tk 0 ?_;refine tk 1 ?_;refine tk 2 ?_;refine tk 3 ?_;refine tk 4 ?_;refine tk 5 ?_;refine tk 6 ?_;refine tk 7 ?_;refine tk 8 ?_;refine j6 9 fun K hK=> ?_;go_simp;have E1:=gi (KD.o.trans (Keeps.a1 D (.cells #[H J opy,M say sety.length scy,M kay kidsy.length kcy,H J mny,H J mxy,H J modey,H J ny,F negy,H J op7,M sa7 set7.length sc7,M ka7 kids7.length kc7,H J mn7,H J mx7,H J mode7,H J n7,F neg7] 26)));refine hK.out _ _ (kz.o _ E1.o) fun hHeld=> ?_;clear hK K;try go_frame
   refine tk 10 ?_;refine j6 11 fun K hK=> ?_;go_simp;have E2:=gi (KD.o.trans (Keeps.a2 D (.cells #[H J opy,M say sety.length scy,M kay kidsy.length kcy,H J mny,H J mxy,H J modey,H J ny,F negy,H J op7,M sa7 set7.length sc7,M ka7 kids7.length kc7,H J mn7,H J mx7,H J mode7,H J n7,F neg7] 26) (.cells #[H J 2,M none 0 0,M (some ⟨D.heap.size,0,none⟩) 2 2,H J 0,H J 0,H J 0,H J 0,F false] 26)));refine hK.out _ _ (kz.o _ E2.o) fun hHeld=> ?_;clear hK K;try go_frame
   have hkin:=newkid_in (op:=2) (W:=D) (T:=26) (T':=26) (HRO.o.keep KD.o) (HA0.o.keep (HKX.o.trans (K6.o.trans KD.o))) #[H J opy,M say sety.length scy,M kay kidsy.length kcy,H J mny,H J mxy,H J modey,H J ny,F negy,H J op7,M sa7 set7.length sc7,M ka7 kids7.length kc7,H J mn7,H J mx7,H J mode7,H J n7,F neg7] (by rw [A00.o,R00.o];rfl);have hkin:KidsIn ((D.alloc (.cells #[H J opy,M say sety.length scy,M kay kidsy.length kcy,H J mny,H J mxy,H J modey,H J ny,F negy,H J op7,M sa7 set7.length sc7,M ka7 kids7.length kc7,H J mn7,H J mx7,H J mode7,H J n7,F neg7] 26)).alloc (.cells #[H J 2,M none 0 0,M (some ⟨D.heap.size,0,none⟩) 2 2,H J 0,H J 0,H J 0,H J 0,F false] 26)) (some ⟨D.heap.size + 1,0,none⟩) 1 [.node 2 none 0 [] (some ⟨D.heap.size,0,none⟩) 2 [r00,a00] 0 0 0 0 false]:=hkin.keep ⟨rfl,rfl,rfl,Nat.le_refl _,fun _ _ _=> rfl⟩;have hs:=HSW.o _ i (some ⟨D.heap.size + 1,0,none⟩) (.node 2 none 0 [] (some ⟨D.heap.size,0,none⟩) 2 [r00,a00] 0 0 0 0 false) (K1.o.keep (HKX.o.trans (K6.o.trans E2.o))) hkin (by omega) (by have:=HLT2.o;show i + 2≤kids.length;omega) (by show 0 < kids.length;omega) (by show kids.length + 1≤1000000;have:=HBK.o;omega);rw [show ((i + 2:Nat):Int)=(i:Int) + 2 by omega,List.length_singleton] at hs;have HS:=gi hs;have KC:=gi (K6.o.trans E2.o);have HADD:=gi (show ∀ x∈MRe.blocksL [.node 2 none 0 [] (some ⟨D.heap.size,0,none⟩) 2 [r00,a00] 0 0 0 0 false],x∈(MRe.node op sa sc set (some ⟨b,off,none⟩) kc kids mn mx mode n neg).blocks∨B + 2≤x from fun x hx=> by
    simp only [MRe.blocksL,MRe.blocks,List.append_nil,List.mem_append] at hx
    rcases hx with h | h | h | h
    ·simp [blockIf] at h
    ·simp [blockIf] at h;subst h;exact .inr (Nat.le_trans HXS.o (Nat.le_trans K6.o.size KD.o.size))
    ·exact HFR.o x h
    ·exact .inl (HB0.o x h))
   clear hkin hs;refine j6 12 fun K hK=> ?_;go_simp
   go_at_call 114
   refine Calls.mono HS.o ?_;rintro e w8 ⟨q,rfl,hqt,hqo,hk8,hqf⟩;have E8:=gi hk8;have K8:=gi (KC.o.trans hk8);have QT:=gi hqt;have QO:=gi hqo;have QF:=gi hqf;obtain ⟨q0,hq0⟩:∃ q0,q0=q:=⟨_,rfl⟩;rw [←hq0] at QT QO QF;have Q0:=gi hq0;clear hqt hqo hk8 hqf hq0;obtain ⟨op9,sa9,sc9,set9,ka9,kc9,kids9,mn9,mx9,mode9,n9,neg9⟩:=q;simp only [MRe.val];have E9:=gi (E2.o.trans E8.o);obtain ⟨z0,z1,z2,z3,z4,z5,z6,z7,zf⟩:=zero_cells (K8.o.h HZ.o);refine hK.out _ _ (kz.o _ E9.o) fun hHeld=> ?_;clear hK K;try go_frame
   refine tk 13 ?_;refine tk 14 ?_;refine j6 15 fun K hK=> ?_;go_simp;have hgB:=HGB.o;have hbB:=HBB.o;have E10:=gi ((E9.o.mono (S':=[B + 1]) (by simp)).trans (set8_keeps w8 (B + 1) (H J op9) (M sa9 set9.length sc9) (M ka9 kids9.length kc9) (H J mn9) (H J mx9) (H J mode9) (H J n9) (F neg9)));refine hK.out _ _ (⟨⟨E10.o.cell c0 (by simp <;> omega),E10.o.cell c1 (by simp <;> omega),E10.o.cell c2 (by simp <;> omega),E10.o.cell c3 (by simp <;> omega),E10.o.cell c4 (by simp <;> omega),E10.o.cell c5 (by simp <;> omega),E10.o.cell c6 (by simp <;> omega),E10.o.cell c7 (by simp <;> omega)⟩,⟨E10.o.cell d0 (by simp <;> omega),E10.o.cell d1 (by simp <;> omega),E10.o.cell d2 (by simp <;> omega),E10.o.cell d3 (by simp <;> omega),E10.o.cell d4 (by simp <;> omega),E10.o.cell d5 (by simp <;> omega),E10.o.cell d6 (by simp <;> omega),E10.o.cell d7 (by simp <;> omega)⟩,⟨E10.o.cell f0 (by simp <;> omega),E10.o.cell f1 (by simp <;> omega),E10.o.cell f2 (by simp <;> omega),E10.o.cell f3 (by simp <;> omega),E10.o.cell f4 (by simp <;> omega),E10.o.cell f5 (by simp <;> omega),E10.o.cell f6 (by simp <;> omega),E10.o.cell f7 (by simp <;> omega)⟩⟩) (fun hHeld=> ?_);clear hK K;try go_frame
   refine tk 16 ?_;refine wd ?_;have HRT2:=gi (fun (q0:MRe) (h:q0.tree=swapT op (MRe.trees kids) i (i + 2) (MRe.trees [.node 2 none 0 [] (some ⟨D.heap.size,0,none⟩) 2 [r00,a00] 0 0 0 0 false]))=> HRT.o q0 (by rw [h];simp only [MRe.trees,MRe.tree,HRTT.o];rfl));clear z0 z1 z2 z3 z4 z5 z6 z7 zf c0 c1 c2 c3 c4 c5 c6 c7 d0 d1 d2 d3 d4 d5 d6 d7 f0 f1 f2 f3 f4 f5 f6 f7 hHeld hgB hbB HRT;have HRT:=HRT2;go_wp2;have hfr:=swap_from QF.o HADD.o (Nat.le_trans HXS.o KC.o.size);rw [Q0.o] at hfr;obtain ⟨hR,hok,hke,hfr2⟩:=rule_store HBE.o HKX.o K8.o HZ.o (by rw [←Q0.o];exact QO.o) hfr HLT.o;refine rt hR ?_;exact RulePost.of_some (.node op9 sa9 sc9 set9 ka9 kc9 kids9 mn9 mx9 mode9 n9 neg9) (by rw [←Q0.o];exact HRT.o q0 QT.o) rfl hok hke hfr2
def ruleR (r:Nat) (t:Tree):Option Tree:=
 match r with
 | 0=> inlineR 2 t
 | 1=> inlineR 3 t
 | 2=> unitR t
 | 3=> twinR t
 | 4=> headR t
 | 5=> tailR t
 | 6=> unionR t
 | 7=> onceR t
 | 8=> nestR t
 | 9=> dropR starsP t
 | 10=> dropR maybeP t
 | 11=> plusR t
 | 12=> holdR t
 | 13=> peelR t
 | 14=> sureR t
 | 15=> looseR t
 | 16=> ownR t
 | _=> none
theorem getD_bulk (l:List Tree) (i:Nat):(l.getD i .nil).bulk≤Tree.bulks l + 1:=by
 rw [List.getD_eq_getElem?_getD]
 by_cases h:i < l.length
 ·rw [List.getElem?_eq_getElem h,Option.getD_some]
  have:=Tree.bulks_mem (List.getElem_mem h)
  omega
 ·rw [List.getElem?_eq_none (by omega)]
  show Tree.nil.bulk≤_
  have:Tree.nil.bulk=1:=rfl
  omega
theorem kids_bulks (t:Tree):Tree.bulks t.kids + 1≤t.bulk:=by
 cases t with
 | node op set kids mn mx mode n neg=> show Tree.bulks kids + 1≤1 + set.length + Tree.bulks kids;omega
theorem take_bulks (l:List Tree) (i:Nat):Tree.bulks (l.take i)≤Tree.bulks l:=by have:=Tree.bulks_take_drop l i;omega
theorem drop_bulks (l:List Tree) (i:Nat):Tree.bulks (l.drop i)≤Tree.bulks l:=by have:=Tree.bulks_take_drop l i;omega
theorem naryT_bulk (op:Int) (l:List Tree):(naryT op l).bulk≤1 + Tree.bulks l:=by
 match l with
 | []=> show 1 + 0 + 0≤1 + 0;omega
 | [x]=> show x.bulk≤1 + (x.bulk + 0);omega
 | x::y::r=> show 1 + 0 + Tree.bulks (x::y::r)≤_;omega
theorem swapT_bulk (op:Int) (kids:List Tree) (i j:Nat) (l:List Tree):(swapT op kids i j l).bulk≤1 + 2 * Tree.bulks kids + Tree.bulks l:=by
 have h:=naryT_bulk op (kids.take i ++ (l ++ kids.drop j));rw [Tree.bulks_append,Tree.bulks_append] at h;have h1:=take_bulks kids i;have h2:=drop_bulks kids j;unfold swapT;omega
theorem mkT_bulk (op:Int) (l:List Tree):(mkT op l).bulk=1 + Tree.bulks l:=by show 1 + 0 + Tree.bulks l=_;omega
theorem heldT_bulk (t:Tree):(heldT t).bulk=t.bulk:=by cases t;rfl
theorem bulks_one (x:Tree):Tree.bulks [x]=x.bulk:=by show x.bulk + 0=_;omega
theorem bulks_two (x y:Tree):Tree.bulks [x,y]=x.bulk + y.bulk:=by show x.bulk + (y.bulk + 0)=_;omega
theorem ruleR_bulk {r:Nat} (hr:r < 17) {t t':Tree} (h:ruleR r t=some t'):t'.bulk≤8 * t.bulk + 100:=by
 have hk:=kids_bulks t;obtain rfl | rfl | rfl | rfl | rfl | rfl | rfl | rfl | rfl | rfl | rfl | rfl | rfl | rfl | rfl | rfl | rfl:r=0∨r=1∨r=2∨r=3∨r=4∨r=5∨r=6∨r=7∨r=8∨r=9∨r=10∨r=11∨r=12∨r=13∨r=14∨r=15∨r=16:=by omega
 ·replace h:inlineR 2 t=some t':=h;unfold inlineR at h
  split at h
  ·obtain ⟨i,_,rfl⟩:=Option.map_eq_some_iff.1 h;have h1:=swapT_bulk t.op t.kids i (i + 1) (t.kids.getD i .nil).kids;have h2:=kids_bulks (t.kids.getD i .nil);have h3:=getD_bulk t.kids i;omega
  ·cases h
 ·replace h:inlineR 3 t=some t':=h;unfold inlineR at h
  split at h
  ·obtain ⟨i,_,rfl⟩:=Option.map_eq_some_iff.1 h;have h1:=swapT_bulk t.op t.kids i (i + 1) (t.kids.getD i .nil).kids;have h2:=kids_bulks (t.kids.getD i .nil);have h3:=getD_bulk t.kids i;omega
  ·cases h
 ·replace h:unitR t=some t':=h;unfold unitR at h
  split at h
  ·obtain ⟨i,_,rfl⟩:=Option.map_eq_some_iff.1 h;have h1:=swapT_bulk 2 t.kids i (i + 1) [];have h2:Tree.bulks []=0:=rfl;omega
  ·cases h
 ·replace h:twinR t=some t':=h;unfold twinR at h
  split at h
  ·obtain ⟨i,_,rfl⟩:=Option.map_eq_some_iff.1 h;have h1:=swapT_bulk 3 t.kids i (i + 1) [];have h2:Tree.bulks []=0:=rfl;omega
  ·cases h
 ·replace h:headR t=some t':=h;unfold headR at h;obtain ⟨i,_,rfl⟩:=Option.map_eq_some_iff.1 h;have h1:=swapT_bulk t.op t.kids i (i + 2) [mkT 2 [(t.kids.getD i .nil).kids.getD 0 .nil,mkT 3 [naryT 2 ((t.kids.getD i .nil).kids.drop 1),naryT 2 ((t.kids.getD (i + 1) .nil).kids.drop 1)]]];rw [bulks_one,mkT_bulk,bulks_two,mkT_bulk,bulks_two] at h1;have h2:=getD_bulk (t.kids.getD i .nil).kids 0;have h3:=naryT_bulk 2 ((t.kids.getD i .nil).kids.drop 1);have h4:=naryT_bulk 2 ((t.kids.getD (i + 1) .nil).kids.drop 1);have h5:=drop_bulks (t.kids.getD i .nil).kids 1;have h6:=drop_bulks (t.kids.getD (i + 1) .nil).kids 1;have h7:=kids_bulks (t.kids.getD i .nil);have h8:=kids_bulks (t.kids.getD (i + 1) .nil);have h9:=getD_bulk t.kids i;have h10:=getD_bulk t.kids (i + 1);omega
 ·replace h:tailR t=some t':=h;unfold tailR at h;obtain ⟨i,_,rfl⟩:=Option.map_eq_some_iff.1 h;have h1:=swapT_bulk t.op t.kids i (i + 2) [mkT 2 [mkT 3 [naryT 2 ((t.kids.getD i .nil).kids.take ((t.kids.getD i .nil).kids.length - 1)),naryT 2 ((t.kids.getD (i + 1) .nil).kids.take ((t.kids.getD (i + 1) .nil).kids.length - 1))],lastT (t.kids.getD i .nil)]];rw [bulks_one,mkT_bulk,bulks_two,mkT_bulk,bulks_two] at h1;have h2:=getD_bulk (t.kids.getD i .nil).kids ((t.kids.getD i .nil).kids.length - 1);have h2':(lastT (t.kids.getD i .nil)).bulk≤Tree.bulks (t.kids.getD i .nil).kids + 1:=h2;have h3:=naryT_bulk 2 ((t.kids.getD i .nil).kids.take ((t.kids.getD i .nil).kids.length - 1));have h4:=naryT_bulk 2 ((t.kids.getD (i + 1) .nil).kids.take ((t.kids.getD (i + 1) .nil).kids.length - 1));have h5:=take_bulks (t.kids.getD i .nil).kids ((t.kids.getD i .nil).kids.length - 1);have h6:=take_bulks (t.kids.getD (i + 1) .nil).kids ((t.kids.getD (i + 1) .nil).kids.length - 1);have h7:=kids_bulks (t.kids.getD i .nil);have h8:=kids_bulks (t.kids.getD (i + 1) .nil);have h9:=getD_bulk t.kids i;have h10:=getD_bulk t.kids (i + 1);omega
 ·replace h:unionR t=some t':=h;unfold unionR at h;obtain ⟨i,hi,rfl⟩:=Option.map_eq_some_iff.1 h;obtain ⟨_,_,hu⟩:=pairO_some hi;have h1:=swapT_bulk t.op t.kids i (i + 2) [.node 1 (unionP (t.kids.getD i .nil).set (t.kids.getD (i + 1) .nil).set) [] 0 0 0 0 false];rw [bulks_one] at h1;have h2:(Tree.node 1 (unionP (t.kids.getD i .nil).set (t.kids.getD (i + 1) .nil).set) [] 0 0 0 0 false).bulk=1 + (unionP (t.kids.getD i .nil).set (t.kids.getD (i + 1) .nil).set).length + 0:=rfl;have h3:(unionP (t.kids.getD i .nil).set (t.kids.getD (i + 1) .nil).set).length≤64:=by
   unfold uT at hu;simp only [Bool.and_eq_true,decide_eq_true_eq] at hu;exact hu.2.2
  omega
 ·cases t with
  | node op set kids mn mx mode n neg=>
   replace h:onceR (.node op set kids mn mx mode n neg)=some t':=h;rw [onceR] at h
   split at h
   ·cases h
    have h1:=getD_bulk kids 0;have hk:Tree.bulks kids + 1≤(Tree.node op set kids mn mx mode n neg).bulk:=hk;omega
   ·cases h
 ·cases t with
  | node op set kids mn mx mode n neg=>
   replace h:nestR (.node op set kids mn mx mode n neg)=some t':=h;rw [nestR] at h
   split at h
   ·cases h
    have h1:=getD_bulk kids 0;have h2:=kids_bulks (kids.getD 0 .nil);have hk:Tree.bulks kids + 1≤(Tree.node op set kids mn mx mode n neg).bulk:=hk
    show 1 + 0 + Tree.bulks (kids.getD 0 .nil).kids≤_
    omega
   ·cases h
 ·replace h:dropR starsP t=some t':=h;unfold dropR at h;obtain ⟨i,_,rfl⟩:=Option.map_eq_some_iff.1 h;have h1:=swapT_bulk t.op t.kids i (i + 1) [];have h2:Tree.bulks []=0:=rfl;omega
 ·replace h:dropR maybeP t=some t':=h;unfold dropR at h;obtain ⟨i,_,rfl⟩:=Option.map_eq_some_iff.1 h;have h1:=swapT_bulk t.op t.kids i (i + 1) [];have h2:Tree.bulks []=0:=rfl;omega
 ·replace h:plusR t=some t':=h;unfold plusR at h;obtain ⟨i,_,rfl⟩:=Option.map_eq_some_iff.1 h;have h1:=swapT_bulk t.op t.kids i (i + 2) [.node 4 [] [t.kids.getD i .nil] 1 (-1) 0 0 false];rw [bulks_one] at h1;have h2:(Tree.node 4 [] [t.kids.getD i .nil] 1 (-1) 0 0 false).bulk=1 + 0 + ((t.kids.getD i .nil).bulk + 0):=rfl;have h3:=getD_bulk t.kids i;omega
 ·cases t with
  | node op set kids mn mx mode n neg=>
   replace h:holdR (.node op set kids mn mx mode n neg)=some t':=h;rw [holdR] at h
   split at h
   ·obtain ⟨i,_,rfl⟩:=Option.map_eq_some_iff.1 h;have h1:=swapT_bulk 2 kids i (i + 1) [heldT (kids.getD i .nil)];rw [bulks_one,heldT_bulk] at h1;have h3:=getD_bulk kids i;have hk:Tree.bulks kids + 1≤(Tree.node op set kids mn mx mode n neg).bulk:=hk;omega
   ·cases h
 ·cases t with
  | node op set kids mn mx mode n neg=>
   replace h:peelR (.node op set kids mn mx mode n neg)=some t':=h;rw [peelR] at h
   split at h
   ·cases h
    rw [mkT_bulk,bulks_one];have h1:=naryT_bulk 2 ((kids.getD 0 .nil).kids.take ((kids.getD 0 .nil).kids.length - 1));have h2:=take_bulks (kids.getD 0 .nil).kids ((kids.getD 0 .nil).kids.length - 1);have h3:=getD_bulk kids 0;have h4:=kids_bulks (kids.getD 0 .nil);have hk:Tree.bulks kids + 1≤(Tree.node op set kids mn mx mode n neg).bulk:=hk;omega
   ·cases h
 ·cases t with
  | node op set kids mn mx mode n neg=>
   replace h:sureR (.node op set kids mn mx mode n neg)=some t':=h;rw [sureR] at h
   split at h
   ·cases h
    have h1:Tree.nil.bulk=1:=rfl;omega
   ·cases h
 ·cases t with
  | node op set kids mn mx mode n neg=>
   replace h:looseR (.node op set kids mn mx mode n neg)=some t':=h;rw [looseR] at h
   split at h
   ·cases h
    have h1:=getD_bulk kids 0;have hk:Tree.bulks kids + 1≤(Tree.node op set kids mn mx mode n neg).bulk:=hk;omega
   ·cases h
 ·cases t with
  | node op set kids mn mx mode n neg=>
   replace h:ownR (.node op set kids mn mx mode n neg)=some t':=h;rw [ownR] at h
   split at h
   ·cases h
    rw [heldT_bulk];have h1:=getD_bulk kids 0;have hk:Tree.bulks kids + 1≤(Tree.node op set kids mn mx mode n neg).bulk:=hk;omega
   ·cases h
theorem prule_any (r:Nat) (hr:r < 17) (m:MRe) (w:World) (k1:m.OK w) (f1:m.tree.WF) (hb:m.tree.bulk≤100000):
  Calls Tryz.prog (ruleFn r) #[m.val] w (RulePost w m.blocks (ruleR r m.tree)):=by
 obtain rfl | rfl | rfl | rfl | rfl | rfl | rfl | rfl | rfl | rfl | rfl | rfl | rfl | rfl | rfl | rfl | rfl:r=0∨r=1∨r=2∨r=3∨r=4∨r=5∨r=6∨r=7∨r=8∨r=9∨r=10∨r=11∨r=12∨r=13∨r=14∨r=15∨r=16:=by omega
 ·exact flat_any m w k1 hb
 ·exact merge_any m w k1 hb
 ·exact unit_any m w k1 hb
 ·exact twin_any m w k1 hb
 ·exact head_any m w k1 f1 hb
 ·exact tail_any m w k1 f1 hb
 ·exact union_any m w k1 f1 hb
 ·exact once_any m w k1 f1
 ·exact nest_any m w k1 f1
 ·exact stars_any m w k1 f1 hb
 ·exact maybe_any m w k1 f1 hb
 ·exact plus_any m w k1 f1 hb
 ·exact hold_any m w k1 f1 hb
 ·exact peel_any m w k1 f1
 ·exact sure_any m w k1 f1
 ·exact loose_any m w k1 f1
 ·exact own_any m w k1 f1
theorem enters_rule (r:Nat) (hr:r < 17):Enters (ruleFn r):=by
 obtain rfl | rfl | rfl | rfl | rfl | rfl | rfl | rfl | rfl | rfl | rfl | rfl | rfl | rfl | rfl | rfl | rfl:r=0∨r=1∨r=2∨r=3∨r=4∨r=5∨r=6∨r=7∨r=8∨r=9∨r=10∨r=11∨r=12∨r=13∨r=14∨r=15∨r=16:=by omega
 ·exact enters_of Tryz.func77 (by kernel_rfl) rfl
 ·exact enters_of Tryz.func78 (by kernel_rfl) rfl
 ·exact enters_of Tryz.func79 (by kernel_rfl) rfl
 ·exact enters_of Tryz.func80 (by kernel_rfl) rfl
 ·exact enters_of Tryz.func81 (by kernel_rfl) rfl
 ·exact enters_of Tryz.func82 (by kernel_rfl) rfl
 ·exact enters_of Tryz.func83 (by kernel_rfl) rfl
 ·exact enters_of Tryz.func84 (by kernel_rfl) rfl
 ·exact enters_of Tryz.func85 (by kernel_rfl) rfl
 ·exact enters_of Tryz.func86 (by kernel_rfl) rfl
 ·exact enters_of Tryz.func87 (by kernel_rfl) rfl
 ·exact enters_of Tryz.func88 (by kernel_rfl) rfl
 ·exact enters_of Tryz.func89 (by kernel_rfl) rfl
 ·exact enters_of Tryz.func90 (by kernel_rfl) rfl
 ·exact enters_of Tryz.func91 (by kernel_rfl) rfl
 ·exact enters_of Tryz.func92 (by kernel_rfl) rfl
 ·exact enters_of Tryz.func93 (by kernel_rfl) rfl
theorem whole_ok {caps top:Int} (ht:top≤1114111):∀ t:Tree,wholeT caps top t=true→t.WF∧t.bulk≤65 * sizeT t:=by
 intro t
 induction t using Tree.induct with
 | h op set kids mn mx mode n neg ih=>
  intro h;simp only [wholeT,Bool.and_eq_true,wholeTs_iff,List.all_eq_true] at h;obtain ⟨h1,h2⟩:=h;have hn:NodeOK op set kids.length mn mx mode n neg:=formedB_ok ht h1;have hset:set.length≤64:=by
   by_cases ho:op=1
   ·exact (hn.hset ho).2
   ·rw [hn.hnset ho];simp
  have hs:∀ l:List Tree,(∀ k∈l,k.WF∧k.bulk≤65 * sizeT k)→Tree.bulks l≤65 * sizeTs l:=by
   intro l
   induction l with
   | nil=> intro _;exact Nat.le_refl _
   | cons x r ih2=>
    intro h;have h1:=(h x (by simp)).2;have h2:=ih2 (fun k hk=> h k (by simp [hk]));simp only [sizeTs,Tree.bulks];omega
  have hk:=hs kids fun k hk=> ih k hk (h2 k hk);refine ⟨.mk hn fun k hk=> (ih k hk (h2 k hk)).1,?_⟩;simp only [sizeT,Tree.bulk];omega
theorem valid_ok {t:Tree} {cp:Int} {ru:Bool} (h:validE t cp ru=0):t.WF∧t.bulk≤16640∧0≤cp∧cp≤9:=by
 unfold validE at h
 by_cases h1:256 < sizeT t∨24 < depthT t
 ·rw [if_pos h1] at h;omega
 ·rw [if_neg h1] at h
  by_cases h2:cp < 0∨9 < cp∨wholeT cp (if ru then 1114111 else 255) t=false
  ·rw [if_pos h2] at h;omega
  ·have hw:wholeT cp (if ru then 1114111 else 255) t=true:=by
    cases hq:wholeT cp (if ru then 1114111 else 255) t with
    | true=> rfl
    | false=> exact absurd (.inr (.inr hq)) h2
   have:=whole_ok (by cases ru <;> simp) t hw
   exact ⟨this.1,by omega,by omega,by omega⟩
theorem wf_nil:Tree.nil.WF:=by
 show (Tree.node 0 [] [] 0 0 0 0 false).WF
 refine .mk ⟨by omega,by simp,by simp,by simp,by simp,by simp,by simp,by simp,by simp,by simp,by simp,by simp,by simp⟩ (by simp)
theorem atT_ok:∀ (path:List Int) {t q:Tree},t.WF→atT t path=some q→q.WF∧q.bulk≤t.bulk:=by
 intro path
 induction path with
 | nil=> intro t q h he;simp only [atT,Option.some.injEq] at he;subst he;exact ⟨h,Nat.le_refl _⟩
 | cons x r ih=>
  intro t q h he;rw [atT] at he
  split at he
  ·rename_i hx
   have hi:x.toNat < t.kids.length:=by omega
   rw [List.getD_eq_getElem?_getD,List.getElem?_eq_getElem hi,Option.getD_some] at he
   cases t with
   | node op set kids mn mx mode n neg=>
    have hm:kids[x.toNat]'hi∈kids:=List.getElem_mem hi;have h1:=ih (h.kid hm) he;have h2:=Tree.bulks_mem hm;have h3:q.bulk≤(kids[x.toNat]'hi).bulk:=h1.2;simp only [Tree.bulk];exact ⟨h1.1,by omega⟩
  ·cases he
theorem atT_getD {path:List Int} {t:Tree} (h:t.WF):((atT t path).getD .nil).WF∧((atT t path).getD .nil).bulk≤t.bulk:=by
 cases hq:atT t path with
 | none=> exact ⟨wf_nil,Tree.bulk_pos t⟩
 | some q=> exact atT_ok path h hq
def DoubPost (w:World) (e:Ending) (w':World):Prop:=
 ∃ (m:MRe) (cp:Int),e=.returned (patVal m cp false)∧m.OK w'∧Keeps [] w w'∧m.tree.bulk≤12000∧validE m.tree cp false=0
end Go.Proofs.YtjnlkjlbejelgaaGreat
