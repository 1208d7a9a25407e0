/- Part 28 of the proof. No condition: every lemma says its own. -/
import Derived.Test.YtjnlkjlbejelgaaGreatQay
import Derived.Test.YtjnlkjlbejelgaaGreatQat
import Derived.Test.YtjnlkjlbejelgaaGreatQba
namespace Go.Proofs.YtjnlkjlbejelgaaGreat
open Go.RowKit Go.Sort Go.BigFrame
open Go.Value renaming int→H,slice→M,bool→F
open Go.IntKind renaming i64→J
set_option maxRecDepth 100000
set_option maxHeartbeats 16000000
def headRes (a b:Tree):Tree:=mkT 2 [a.kids.getD 0 .nil,mkT 3 [naryT 2 (a.kids.drop 1),naryT 2 (b.kids.drop 1)]]
theorem drop_blocks {op sa sc set b off kc kids mn mx mode n neg} (k:Nat) (hl:0 < kids.length):∀ q∈blockIf (kids.drop k).length (some (⟨b,off + k * 8,none⟩:Addr)) ++ MRe.blocksL (kids.drop k),q∈(MRe.node op sa sc set (some ⟨b,off,none⟩) kc kids mn mx mode n neg).blocks:=fun q hq=> by
 simp only [MRe.blocks,List.mem_append]
 rcases List.mem_append.1 hq with h | h
 ·refine .inr (.inl ?_);unfold blockIf at h ⊢;rw [if_neg (by omega)]
  split at h
  ·simp at h
  ·simpa using h
 ·obtain ⟨y,hy,hqy⟩:=MRe.blocksL_mem h;exact .inr (.inr (MRe.mem_blocksL (List.mem_of_mem_drop hy) hqy))
theorem three_in {W:World} {src:List Nat} {lo T1 T2 T3:Nat} {p1 p2:Int} {a0 s1 s2:MRe} (ha:a0.OK W) (h1:s1.OK W) (h2:s2.OK W) (c1 c2 c3:Array Value) (e1:c1.toList=flatK [s1,s2])
  (e2:c2.toList=flatK [a0,.node p1 none 0 [] (some ⟨W.heap.size,0,none⟩) 2 [s1,s2] 0 0 0 0 false]) (e3:c3.toList=(MRe.node p2 none 0 [] (some ⟨W.heap.size + 1,0,none⟩) 2 [a0,.node p1 none 0 [] (some ⟨W.heap.size,0,none⟩) 2 [s1,s2] 0 0 0 0 false] 0 0 0 0 false).row)
  (hlo:lo≤W.heap.size) (f0:From lo src a0.blocks) (f1:From lo src s1.blocks) (f2:From lo src s2.blocks):
  KidsIn (((W.alloc (.cells c1 T1)).alloc (.cells c2 T2)).alloc (.cells c3 T3)) (some ⟨W.heap.size + 2,0,none⟩) 1 [.node p2 none 0 [] (some ⟨W.heap.size + 1,0,none⟩) 2 [a0,.node p1 none 0 [] (some ⟨W.heap.size,0,none⟩) 2 [s1,s2] 0 0 0 0 false] 0 0 0 0 false]∧
  From lo src (MRe.node p2 none 0 [] (some ⟨W.heap.size + 1,0,none⟩) 2 [a0,.node p1 none 0 [] (some ⟨W.heap.size,0,none⟩) 2 [s1,s2] 0 0 0 0 false] 0 0 0 0 false).blocks:=by
 have hy:=mk2_ok (op:=p1) h1 h2 (Keeps.a1 W (.cells c1 T1)) (heap_alloc_new W _) e1;have hx:=mk2_ok (op:=p2) (ha.keep (Keeps.a1 W (.cells c1 T1))) hy (Keeps.a1 _ (.cells c2 T2)) (heap_alloc2_new W _ _) e2;refine ⟨?_,?_⟩
 ·have h:=lone_in (T:=T3) hx c3 e3;have hs:((W.alloc (.cells c1 T1)).alloc (.cells c2 T2)).heap.size=W.heap.size + 2:=by simp
  rw [hs] at h;exact h
 ·intro x hx;simp only [MRe.blocks,MRe.blocksL,List.append_nil,List.mem_append] at hx
  rcases hx with h | h | h | h | h | h | h
  ·simp [blockIf] at h
  ·simp [blockIf] at h;subst h;exact .inr (by omega)
  ·exact f0 x h
  ·simp [blockIf] at h
  ·simp [blockIf] at h;subst h;exact .inr hlo
  ·exact f1 x h
  ·exact f2 x h
theorem rpair4_any (m1 m2:MRe) (w:World) (k1:m1.OK w) (k2:m2.OK w) (f1:m1.tree.WF) (f2:m2.tree.WF) (b1:m1.tree.bulk≤100000) (b2:m2.tree.bulk≤100000):
  Calls Tryz.prog 96 #[H J 4,m1.val,m2.val] w (PairRes w (m1.blocks ++ m2.blocks) (if headP m1.tree m2.tree=true then some [headRes m1.tree m2.tree] else none)):=by
 obtain ⟨R,hR0⟩:∃ R,R=if headP m1.tree m2.tree=true then some [headRes m1.tree m2.tree] else none:=⟨_,rfl⟩;rw [←hR0];obtain ⟨op1,sa1,sc1,set1,ka1,kc1,kids1,mn1,mx1,mode1,n1,neg1⟩:=m1;obtain ⟨op2,sa2,sc2,set2,ka2,kc2,kids2,mn2,mx2,mode2,n2,neg2⟩:=m2;replace hR0:R=if (op1==2 && (op2==2 && (singleHd (MRe.trees kids1) && hdEq (MRe.trees kids1) (MRe.trees kids2))))=true then some [mkT 2 [(MRe.trees kids1).getD 0 .nil,mkT 3 [naryT 2 ((MRe.trees kids1).drop 1),naryT 2 ((MRe.trees kids2).drop 1)]]] else none:=hR0;have n1':=wf_node f1;have n2':=wf_node f2;simp only [MRe.val];obtain ⟨B,Y,c0,c1,c2,c3,c4,c5,c6,c7,d0,d1,d2,d3,d4,d5,d6,d7,HYE,HBE,KY⟩:=pre2 w op1 sa1 sc1 set1 ka1 kc1 kids1 mn1 mx1 mode1 n1 neg1 op2 sa2 sc2 set2 ka2 kc2 kids2 mn2 mx2 mode2 n2 neg2
 by_cases h1:op1=2
 ·by_cases h2:op2=2
  ·have l1:=n1'.htwo (.inl h1);have l2:=n2'.htwo (.inl h2);obtain ⟨bb1,o1,a,hka1,ha,ha0,haa,hao⟩:=k1.kids.head (by omega);obtain ⟨bb2,o2,b,hka2,hb,hb0,hba,hbo⟩:=k2.kids.head (by omega);subst hka1;subst hka2;obtain ⟨r1,t1⟩:=trees_head ha0;obtain ⟨r2,t2⟩:=trees_head hb0;have hd1:=k1.nodes.drop 1 (by omega);have hd2:=k2.nodes.drop 1 (by omega);have hc1:=k1.nodes.cap;have hc2:=k2.nodes.cap;have he1:=k1.nodes.le;have he2:=k2.nodes.le;unfold maxLen at hc1 hc2;rw [if_neg (by omega),Nat.one_mul] at hd1 hd2;have hk1:KidsIn w (some ⟨bb1,o1 + 8,none⟩) (kc1 - 1) (kids1.drop 1):=⟨hd1,fun x hx=> k1.kid (List.mem_of_mem_drop hx)⟩;have hk2:KidsIn w (some ⟨bb2,o2 + 8,none⟩) (kc2 - 1) (kids2.drop 1):=⟨hd2,fun x hx=> k2.kid (List.mem_of_mem_drop hx)⟩;have hn1:=fun (W:World) (h:Keeps [] w W)=> one_any (some ⟨bb1,o1 + 8,none⟩) (kc1 - 1) (kids1.drop 1) W (hk1.keep h);have hn2:=fun (W:World) (h:Keeps [] w W)=> one_any (some ⟨bb2,o2 + 8,none⟩) (kc2 - 1) (kids2.drop 1) W (hk2.keep h);rw [List.length_drop] at hn1 hn2;have hs1:∀ W:World,(Instr.sliceAt 24 (M (some ⟨bb1,o1,none⟩) kids1.length kc1) (some (H J 1)) none none).run Tryz.prog W=.ok (M (some ⟨bb1,o1 + 8,none⟩) (kids1.length - 1) (kc1 - 1)) W:=by
    intro W;have q1:(1:Int)≤kids1.length:=by omega
    have q2:¬ kc1=1:=by omega
    simp [go_sem,q1,q2]
   have hs2:∀ W:World,(Instr.sliceAt 24 (M (some ⟨bb2,o2,none⟩) kids2.length kc2) (some (H J 1)) none none).run Tryz.prog W=.ok (M (some ⟨bb2,o2 + 8,none⟩) (kids2.length - 1) (kc2 - 1)) W:=by
    intro W;have q1:(1:Int)≤kids2.length:=by omega
    have q2:¬ kc2=1:=by omega
    simp [go_sem,q1,q2]
   have hB0:∀ x∈a.blocks,x∈(MRe.node op1 sa1 sc1 set1 (some ⟨bb1,o1,none⟩) kc1 kids1 mn1 mx1 mode1 n1 neg1).blocks ++ (MRe.node op2 sa2 sc2 set2 (some ⟨bb2,o2,none⟩) kc2 kids2 mn2 mx2 mode2 n2 neg2).blocks:=fun x hx=> List.mem_append_left _ (blocks_kid ha x hx);have hB1:=fun q hq=> List.mem_append_left (MRe.node op2 sa2 sc2 set2 (some ⟨bb2,o2,none⟩) kc2 kids2 mn2 mx2 mode2 n2 neg2).blocks (drop_blocks (op:=op1) (sa:=sa1) (sc:=sc1) (set:=set1) (b:=bb1) (off:=o1) (kc:=kc1) (kids:=kids1) (mn:=mn1) (mx:=mx1) (mode:=mode1) (n:=n1) (neg:=neg1) 1 (by omega) q hq);have hB2:=fun q hq=> List.mem_append_right (MRe.node op1 sa1 sc1 set1 (some ⟨bb1,o1,none⟩) kc1 kids1 mn1 mx1 mode1 n1 neg1).blocks (drop_blocks (op:=op2) (sa:=sa2) (sc:=sc2) (set:=set2) (b:=bb2) (off:=o2) (kc:=kc2) (kids:=kids2) (mn:=mn2) (mx:=mx2) (mode:=mode2) (n:=n2) (neg:=neg2) 1 (by omega) q hq);rw [List.length_drop] at hB1 hB2;have HB0:=gi hB0;have HB1:=gi hB1;have HB2:=gi hB2;have HN1:=gi hn1;have HN2:=gi hn2;have ba:=(kids_bulk b1).2.2 _ ha;have bb:=(kids_bulk b2).2.2 _ hb;have HS:=fun W (h:Keeps [] w W)=> rsingle_any a W (hao.keep h) (wf_kid f1 ha);have HE:=fun W (h:Keeps [] w W)=> requal_any a b W (hao.keep h) (hbo.keep h) ba bb;have HAO:=gi hao;have hdt1:(MRe.trees kids1).drop 1=MRe.trees (kids1.drop 1):=by rw [MRe.trees_eq,MRe.trees_eq,List.map_drop]
   have hdt2:(MRe.trees kids2).drop 1=MRe.trees (kids2.drop 1):=by rw [MRe.trees_eq,MRe.trees_eq,List.map_drop]
   have hg0:(MRe.trees kids1).getD 0 .nil=a.tree:=by rw [t1];rfl
   have hcd:(op1==2 && (op2==2 && (singleHd (MRe.trees kids1) && hdEq (MRe.trees kids1) (MRe.trees kids2))))=(singleT a.tree && eqB a.tree b.tree):=by rw [t1,t2,h1,h2];rfl
   rw [hdt1,hdt2,hg0,hcd] at hR0;obtain ⟨s,hs⟩:∃ s,s=singleT a.tree:=⟨_,rfl⟩;obtain ⟨q,hq⟩:∃ q,q=eqB a.tree b.tree:=⟨_,rfl⟩;rw [←hs,←hq] at hR0;simp only [←hs] at HS;simp only [←hq] at HE;obtain ⟨a00,ha00⟩:∃ a00,a00=a:=⟨_,rfl⟩;rw [←ha00] at hR0 HB0 HAO;have A00:=gi ha00;have HR0:=gi hR0;obtain ⟨op3,sa3,sc3,set3,ka3,kc3,kids3,mn3,mx3,mode3,n3,neg3⟩:=a;obtain ⟨op4,sa4,sc4,set4,ka4,kc4,kids4,mn4,mx4,mode4,n4,neg4⟩:=b;have g:=haa.node;obtain ⟨e0,e1,e2,e3,e4,e5,e6,e7⟩:=id g;clear g;have g:=hba.node;obtain ⟨f0,f1,f2,f3,f4,f5,f6,f7⟩:=id g;simp only [MRe.val] at HS HE;have HLT1:=gi k1.block_lt;obtain ⟨x0,x1,x2,x3,x4,x5,x6,x7⟩:=KY.o.c8 e0 e1 e2 e3 e4 e5 e6 e7;obtain ⟨y0,y1,y2,y3,y4,y5,y6,y7⟩:=KY.o.c8 f0 f1 f2 f3 f4 f5 f6 f7;have HCX:=gi (show (Y.cell? ⟨B,2,none⟩=some (M (some ⟨bb1,o1,none⟩) kids1.length kc1)∧Y.cell? ⟨B + 1,2,none⟩=some (M (some ⟨bb2,o2,none⟩) kids2.length kc2))∧(Y.cell? ⟨bb1,o1,none⟩=some (H J op3)∧Y.cell? ⟨bb1,o1 + 1,none⟩=some (M sa3 set3.length sc3)∧Y.cell? ⟨bb1,o1 + 2,none⟩=some (M ka3 kids3.length kc3)∧Y.cell? ⟨bb1,o1 + 3,none⟩=some (H J mn3)∧Y.cell? ⟨bb1,o1 + 4,none⟩=some (H J mx3)∧Y.cell? ⟨bb1,o1 + 5,none⟩=some (H J mode3)∧Y.cell? ⟨bb1,o1 + 6,none⟩=some (H J n3)∧Y.cell? ⟨bb1,o1 + 7,none⟩=some (F neg3)) from ⟨⟨c2,d2⟩,⟨x0,x1,x2,x3,x4,x5,x6,x7⟩⟩);have cS:∀ d os,Calls Tryz.prog 56 #[.agg #[H J op3,M sa3 set3.length sc3,M ka3 kids3.length kc3,H J mn3,H J mx3,H J mode3,H J n3,F neg3]] (grow (redrawn Y d) os) fun e w''=> e=.returned (F s)∧∃ p:Regrown,w''=grow (redrawn Y p.d) p.os:=fun d os=> Calls.regrown_of ((HS _ (KY.o.trans (Keeps.of_below (below_regrown Y d os)))).mono fun e w' ⟨he,hk⟩=> ⟨he,hk.below (Nat.le_refl _)⟩);have CS:=gi cS;have cE:∀ d os,Calls Tryz.prog 95 #[.agg #[H J op3,M sa3 set3.length sc3,M ka3 kids3.length kc3,H J mn3,H J mx3,H J mode3,H J n3,F neg3],.agg #[H J op4,M sa4 set4.length sc4,M ka4 kids4.length kc4,H J mn4,H J mx4,H J mode4,H J n4,F neg4]] (grow (redrawn Y d) os) fun e w''=> e=.returned (F q)∧∃ p:Regrown,w''=grow (redrawn Y p.d) p.os:=fun d os=> Calls.regrown_of ((HE _ (KY.o.trans (Keeps.of_below (below_regrown Y d os)))).mono fun e w' ⟨he,hk⟩=> ⟨he,hk.below (Nat.le_refl _)⟩);have CE:=gi cE;have i1:(0:Int) < (kids1.length:Int):=by omega
   have i1n:0 < kids1.length:=by omega
   have i2n:0 < kids2.length:=by omega
   have i2:(0:Int) < (kids2.length:Int):=by omega
   subst h1;subst h2;clear cS cE HS HE hs hq hR0 ha00 hcd hg0 hdt1 hdt2 ba bb hn1 hn2 hB0 hB1 hB2 hk1 hk2 hd1 hd2 hc1 hc2 he1 he2 t1 t2 ha ha0 haa hao hb hb0 hba hbo g e0 e1 e2 e3 e4 e5 e6 e7 f0 f1 f2 f3 f4 f5 f6 f7 n1' n2' k1 k2 b1 b2 l1 l2;go_enter Tryz.func96,Tryz.ntmps96
   go_upto_region 1 with fail
   rw [←HYE.o,←HBE.o];go_upto_region 6 with fail
   have s0:=cell_regrown x0;have s1:=cell_regrown x1;have s2:=cell_regrown x2;have s3:=cell_regrown x3;have s4:=cell_regrown x4;have s5:=cell_regrown x5;have s6:=cell_regrown x6;have s7:=cell_regrown x7;have t0:=cell_regrown y0;have t1:=cell_regrown y1;have t2:=cell_regrown y2;have t3:=cell_regrown y3;have t4:=cell_regrown y4;have t5:=cell_regrown y5;have t6:=cell_regrown y6;have t7:=cell_regrown y7;have u2:=cell_regrown c2;have v2:=cell_regrown d2;clear c0 c1 c2 c3 c4 c5 c6 c7 d0 d1 d2 d3 d4 d5 d6 d7 x0 x1 x2 x3 x4 x5 x6 x7 y0 y1 y2 y3 y4 y5 y6 y7
   cases q with
   | false=>
    have HR:=gi (show R=none by rw [HR0.o];simp);refine wp_region_quiet_below (by kernel_rfl) (by kernel_rfl) ?_
    repeat (go_big_quiet_step (exact CE.o _ _))
    refine wpQuiet_nil ?_;intro _ hw';obtain ⟨pq,hw''⟩:=hw';subst hw'';have hk:=Keeps.of_below (below_regrown Y pq.d pq.os);have HK:=gi (KY.o.trans hk);clear hk s0 s1 s2 s3 s4 s5 s6 s7 t0 t1 t2 t3 t4 t5 t6 t7 u2 v2
    generalize grow (redrawn Y pq.d) pq.os=Z at *
    go_wp2
    go_ret2
    exact PairRes.of_none HR.o rfl HK.o
   | true=>
    cases s with
    | false=>
     have HR:=gi (show R=none by rw [HR0.o];simp);refine wp_region_quiet_below (by kernel_rfl) (by kernel_rfl) ?_
     repeat (go_big_quiet_step (first | exact CE.o _ _ | exact CS.o _ _))
     refine wpQuiet_nil ?_;intro _ hw';obtain ⟨pq,hw''⟩:=hw';subst hw'';have hk:=Keeps.of_below (below_regrown Y pq.d pq.os);have HK:=gi (KY.o.trans hk);clear hk s0 s1 s2 s3 s4 s5 s6 s7 t0 t1 t2 t3 t4 t5 t6 t7 u2 v2
     generalize grow (redrawn Y pq.d) pq.os=Z at *
     go_wp2
     go_ret2
     exact PairRes.of_none HR.o rfl HK.o
    | true=>
     have HR:=gi (show R=some [mkT 2 [a00.tree,mkT 3 [naryT 2 (MRe.trees (kids1.drop 1)),naryT 2 (MRe.trees (kids2.drop 1))]]] by rw [HR0.o];simp);refine wp_region_quiet_below (by kernel_rfl) (by kernel_rfl) ?_
     repeat (go_big_quiet_step (first | exact CE.o _ _ | exact CS.o _ _))
     refine wpQuiet_nil ?_;intro _ hw';obtain ⟨pq,hw''⟩:=hw';subst hw'';have hk:=Keeps.of_below (below_regrown Y pq.d pq.os);have HKZ:=gi hk;have HK:=gi (KY.o.trans hk);clear hk s0 s1 s2 s3 s4 s5 s6 s7 t0 t1 t2 t3 t4 t5 t6 t7 u2 v2
     generalize grow (redrawn Y pq.d) pq.os=Z at *
     obtain ⟨⟨c2,d2⟩,⟨x0,x1,x2,x3,x4,x5,x6,x7⟩⟩:=HCX.o;have u2:=HKZ.o.c c2;have v2:=HKZ.o.c d2;obtain ⟨y0,y1,y2,y3,y4,y5,y6,y7⟩:=HKZ.o.c8 x0 x1 x2 x3 x4 x5 x6 x7;clear c2 d2 x0 x1 x2 x3 x4 x5 x6 x7;go_upto_region 7 with fail
     refine rg (S:=fun w'=> (w'.cell? ⟨B,2,none⟩=some (M (some ⟨bb1,o1,none⟩) kids1.length kc1)∧w'.cell? ⟨B + 1,2,none⟩=some (M (some ⟨bb2,o2,none⟩) kids2.length kc2))∧(w'.cell? ⟨bb1,o1,none⟩=some (H J op3)∧w'.cell? ⟨bb1,o1 + 1,none⟩=some (M sa3 set3.length sc3)∧w'.cell? ⟨bb1,o1 + 2,none⟩=some (M ka3 kids3.length kc3)∧w'.cell? ⟨bb1,o1 + 3,none⟩=some (H J mn3)∧w'.cell? ⟨bb1,o1 + 4,none⟩=some (H J mx3)∧w'.cell? ⟨bb1,o1 + 5,none⟩=some (H J mode3)∧w'.cell? ⟨bb1,o1 + 6,none⟩=some (H J n3)∧w'.cell? ⟨bb1,o1 + 7,none⟩=some (F neg3))) (fun _ k=> ⟨⟨k.c u2,k.c v2⟩,⟨k.c y0,k.c y1,k.c y2,k.c y3,k.c y4,k.c y5,k.c y6,k.c y7⟩⟩) fun kz hHeld=> ?_;refine tk 0 ?_;refine tk 1 ?_;refine tk 2 ?_;refine tk 3 ?_;refine tk 4 ?_;refine tk 5 ?_;refine tk 6 ?_;refine tk 8 ?_;refine tk 9 ?_;refine tk 10 ?_;refine j6 7 fun K hK=> ?_;go_simp
     go_at_call 55
     refine Calls.mono (HN1.o _ (HK.o.drew)) ?_;rintro e w3 ⟨p1,rfl,ht1,ho1,hk3,hb1⟩;have K3:=gi (((Keeps.refl [] Z).drew).trans hk3);have T1:=gi ht1;have O1:=gi ho1;have L1:=gi hb1;obtain ⟨p10,hp10⟩:∃ p10,p10=p1:=⟨_,rfl⟩;rw [←hp10] at T1 O1 L1;have P1:=gi hp10;clear hk3 ht1 ho1 hb1 hp10;obtain ⟨op5,sa5,sc5,set5,ka5,kc5,kids5,mn5,mx5,mode5,n5,neg5⟩:=p1;simp only [MRe.val];refine hK.out _ _ (kz.o _ K3.o) fun hHeld=> ?_;clear hK K;try go_frame
     refine j6 11 fun K hK=> ?_;go_simp
     go_at_call 55
     refine Calls.mono (HN2.o _ (HK.o.trans K3.o)) ?_;rintro e w4 ⟨p2,rfl,ht2,ho2,hk4,hb2⟩;have E4:=gi hk4;have K4:=gi (K3.o.trans hk4);have T2:=gi ht2;have O2:=gi ho2;have L2:=gi hb2;obtain ⟨p20,hp20⟩:∃ p20,p20=p2:=⟨_,rfl⟩;rw [←hp20] at T2 O2 L2;have P2:=gi hp20;clear hk4 ht2 ho2 hb2 hp20;obtain ⟨op6,sa6,sc6,set6,ka6,kc6,kids6,mn6,mx6,mode6,n6,neg6⟩:=p2;simp only [MRe.val];refine hK.out _ _ (kz.o _ K4.o) fun hHeld=> ?_;clear hK K;try go_frame
     refine j6 12 fun K hK=> ?_;go_simp;have E5:=gi (K4.o.trans (Keeps.a1 w4 (.cells #[H J op5,M sa5 set5.length sc5,M ka5 kids5.length kc5,H J mn5,H J mx5,H J mode5,H J n5,F neg5,H J op6,M sa6 set6.length sc6,M ka6 kids6.length kc6,H J mn6,H J mx6,H J mode6,H J n6,F neg6] 26)));refine hK.out _ _ (kz.o _ E5.o) fun hHeld=> ?_;clear hK K;try go_frame
     refine tk 13 ?_;refine j6 14 fun K hK=> ?_;go_simp;have E6:=gi (E5.o.trans (Keeps.a1 _ (.cells #[H J op3,M sa3 set3.length sc3,M ka3 kids3.length kc3,H J mn3,H J mx3,H J mode3,H J n3,F neg3,H J 3,M none 0 0,M (some ⟨w4.heap.size,0,none⟩) 2 2,H J 0,H J 0,H J 0,H J 0,F false] 26)));refine hK.out _ _ (kz.o _ E6.o) fun hHeld=> ?_;clear hK K;try go_frame
     refine tk 15 ?_;refine j6 16 fun K hK=> ?_;go_simp;have E7:=gi (E6.o.trans (Keeps.a1 _ (.cells #[H J 2,M none 0 0,M (some ⟨w4.heap.size + 1,0,none⟩) 2 2,H J 0,H J 0,H J 0,H J 0,F false] 26)));refine hK.out _ _ (kz.o _ E7.o) fun hHeld=> ?_;clear hK K;try go_frame
     refine tk 17 ?_;refine tk 18 ?_;refine wd ?_;have hlo:w.heap.size≤w4.heap.size:=(HK.o.trans K4.o).size;obtain ⟨hK3,hF3⟩:=three_in (T1:=26) (T2:=26) (T3:=26) (p1:=3) (p2:=2) (lo:=w.heap.size) (HAO.o.keep (HK.o.trans K4.o)) (O1.o.keep E4.o) O2.o #[H J op5,M sa5 set5.length sc5,M ka5 kids5.length kc5,H J mn5,H J mx5,H J mode5,H J n5,F neg5,H J op6,M sa6 set6.length sc6,M ka6 kids6.length kc6,H J mn6,H J mx6,H J mode6,H J n6,F neg6] #[H J op3,M sa3 set3.length sc3,M ka3 kids3.length kc3,H J mn3,H J mx3,H J mode3,H J n3,F neg3,H J 3,M none 0 0,M (some ⟨w4.heap.size,0,none⟩) 2 2,H J 0,H J 0,H J 0,H J 0,F false] #[H J 2,M none 0 0,M (some ⟨w4.heap.size + 1,0,none⟩) 2 2,H J 0,H J 0,H J 0,H J 0,F false]
      (by rw [P1.o,P2.o];rfl) (by rw [A00.o];rfl) rfl hlo (From.of_mem HB0.o) (From.of_mem fun x hx=> HB1.o x (L1.o x hx)) (From.of_mem fun x hx=> HB2.o x (L2.o x hx))
     have HK3:=gi hK3;have HF3:=gi hF3;clear hK3 hF3 hlo u2 v2 y0 y1 y2 y3 y4 y5 y6 y7 hHeld;go_wp2
     go_ret2
     exact PairRes.of_some (some ⟨w4.heap.size + 2,0,none⟩) _ HR.o (by simp only [MRe.tree,MRe.trees,T1.o,T2.o];rfl) rfl HK3.o (HK.o.trans E7.o) HF3.o
  ·have hb:(op2==2)=false:=by simpa using h2
   have HR:=gi (show R=none by rw [hR0,hb];simp);clear hR0 n1' n2' k1 k2 f1 f2 b1 b2;subst h1;go_enter Tryz.func96,Tryz.ntmps96
   go_upto_region 1 with fail
   rw [←HYE.o,←HBE.o];go_upto_region 6 with fail
   go_quiet (fail)
   go_wp2
   go_ret2
   exact PairRes.of_none HR.o rfl (KY.o.drewN _)
 ·have hb:(op1==2)=false:=by simpa using h1
  have HR:=gi (show R=none by rw [hR0,hb];simp);clear hR0 n1' n2' k1 k2 f1 f2 b1 b2;go_enter Tryz.func96,Tryz.ntmps96
  go_upto_region 1 with fail
  rw [←HYE.o,←HBE.o];go_upto_region 6 with fail
  go_quiet (fail)
  go_wp2
  go_ret2
  exact PairRes.of_none HR.o rfl (KY.o.drewN _)
def tailRes (a b:Tree):Tree:=mkT 2 [mkT 3 [naryT 2 (a.kids.take (a.kids.length - 1)),naryT 2 (b.kids.take (b.kids.length - 1))],lastT a]
theorem take_blocks {op sa sc set b off kc kids mn mx mode n neg} (k:Nat) (hl:0 < kids.length):∀ q∈blockIf (kids.take k).length (some (⟨b,off,none⟩:Addr)) ++ MRe.blocksL (kids.take k),q∈(MRe.node op sa sc set (some ⟨b,off,none⟩) kc kids mn mx mode n neg).blocks:=fun q hq=> by
 simp only [MRe.blocks,List.mem_append]
 rcases List.mem_append.1 hq with h | h
 ·refine .inr (.inl ?_);unfold blockIf at h ⊢;rw [if_neg (by omega)]
  split at h
  ·simp at h
  ·simpa using h
 ·obtain ⟨y,hy,hqy⟩:=MRe.blocksL_mem h;exact .inr (.inr (MRe.mem_blocksL (List.mem_of_mem_take hy) hqy))
theorem three_in2 {W:World} {src:List Nat} {lo T1 T2 T3:Nat} {p1 p2:Int} {a0 s1 s2:MRe} (ha:a0.OK W) (h1:s1.OK W) (h2:s2.OK W) (c1 c2 c3:Array Value) (e1:c1.toList=flatK [s1,s2])
  (e2:c2.toList=flatK [.node p1 none 0 [] (some ⟨W.heap.size,0,none⟩) 2 [s1,s2] 0 0 0 0 false,a0]) (e3:c3.toList=(MRe.node p2 none 0 [] (some ⟨W.heap.size + 1,0,none⟩) 2 [.node p1 none 0 [] (some ⟨W.heap.size,0,none⟩) 2 [s1,s2] 0 0 0 0 false,a0] 0 0 0 0 false).row)
  (hlo:lo≤W.heap.size) (f0:From lo src a0.blocks) (f1:From lo src s1.blocks) (f2:From lo src s2.blocks):
  KidsIn (((W.alloc (.cells c1 T1)).alloc (.cells c2 T2)).alloc (.cells c3 T3)) (some ⟨W.heap.size + 2,0,none⟩) 1 [.node p2 none 0 [] (some ⟨W.heap.size + 1,0,none⟩) 2 [.node p1 none 0 [] (some ⟨W.heap.size,0,none⟩) 2 [s1,s2] 0 0 0 0 false,a0] 0 0 0 0 false]∧
  From lo src (MRe.node p2 none 0 [] (some ⟨W.heap.size + 1,0,none⟩) 2 [.node p1 none 0 [] (some ⟨W.heap.size,0,none⟩) 2 [s1,s2] 0 0 0 0 false,a0] 0 0 0 0 false).blocks:=by
 have hy:=mk2_ok (op:=p1) h1 h2 (Keeps.a1 W (.cells c1 T1)) (heap_alloc_new W _) e1;have hx:=mk2_ok (op:=p2) hy (ha.keep (Keeps.a1 W (.cells c1 T1))) (Keeps.a1 _ (.cells c2 T2)) (heap_alloc2_new W _ _) e2;refine ⟨?_,?_⟩
 ·have h:=lone_in (T:=T3) hx c3 e3;have hs:((W.alloc (.cells c1 T1)).alloc (.cells c2 T2)).heap.size=W.heap.size + 2:=by simp
  rw [hs] at h;exact h
 ·intro x hx;simp only [MRe.blocks,MRe.blocksL,List.append_nil,List.mem_append] at hx
  rcases hx with h | h | h | h
  ·simp [blockIf] at h
  ·simp [blockIf] at h;subst h;exact .inr (by omega)
  ·rcases h with h | h | h | h
   ·simp [blockIf] at h
   ·simp [blockIf] at h;subst h;exact .inr hlo
   ·exact f1 x h
   ·exact f2 x h
  ·exact f0 x h
theorem rpair5_any (m1 m2:MRe) (w:World) (k1:m1.OK w) (k2:m2.OK w) (f1:m1.tree.WF) (f2:m2.tree.WF) (b1:m1.tree.bulk≤100000) (b2:m2.tree.bulk≤100000):
  Calls Tryz.prog 96 #[H J 5,m1.val,m2.val] w (PairRes w (m1.blocks ++ m2.blocks) (if tailP m1.tree m2.tree=true then some [tailRes m1.tree m2.tree] else none)):=by
 obtain ⟨R,hR0⟩:∃ R,R=if tailP m1.tree m2.tree=true then some [tailRes m1.tree m2.tree] else none:=⟨_,rfl⟩;rw [←hR0];obtain ⟨op1,sa1,sc1,set1,ka1,kc1,kids1,mn1,mx1,mode1,n1,neg1⟩:=m1;obtain ⟨op2,sa2,sc2,set2,ka2,kc2,kids2,mn2,mx2,mode2,n2,neg2⟩:=m2;replace hR0:R=if (op1==2 && (op2==2 && eqB (lastT (MRe.tree (.node op1 sa1 sc1 set1 ka1 kc1 kids1 mn1 mx1 mode1 n1 neg1))) (lastT (MRe.tree (.node op2 sa2 sc2 set2 ka2 kc2 kids2 mn2 mx2 mode2 n2 neg2)))))=true then some [mkT 2 [mkT 3 [naryT 2 ((MRe.trees kids1).take ((MRe.trees kids1).length - 1)),naryT 2 ((MRe.trees kids2).take ((MRe.trees kids2).length - 1))],lastT (MRe.tree (.node op1 sa1 sc1 set1 ka1 kc1 kids1 mn1 mx1 mode1 n1 neg1))]] else none:=hR0;have n1':=wf_node f1;have n2':=wf_node f2;simp only [MRe.val];obtain ⟨B,Y,c0,c1,c2,c3,c4,c5,c6,c7,d0,d1,d2,d3,d4,d5,d6,d7,HYE,HBE,KY⟩:=pre2 w op1 sa1 sc1 set1 ka1 kc1 kids1 mn1 mx1 mode1 n1 neg1 op2 sa2 sc2 set2 ka2 kc2 kids2 mn2 mx2 mode2 n2 neg2
 by_cases h1:op1=2
 ·by_cases h2:op2=2
  ·obtain ⟨bb1,o1,l1,a,hka1,hl1,ha,haa,hao,hag,i1,i2,i3,i4,i5,_⟩:=last_kid k1 (n1'.htwo (.inl h1));obtain ⟨bb2,o2,l2,b,hka2,hl2,hb,hba,hbo,hbg,j1,j2,j3,j4,j5,_⟩:=last_kid k2 (n2'.htwo (.inl h2));rw [hag,hbg] at hR0;subst hka1;subst hka2;have hc1:=k1.nodes.cap;have hc2:=k2.nodes.cap;have he1:=k1.nodes.le;have he2:=k2.nodes.le;unfold maxLen at hc1 hc2;have htl1:(kids1.take l1).length=l1:=by rw [List.length_take];omega
   have htl2:(kids2.take l2).length=l2:=by rw [List.length_take];omega
   have hk1:KidsIn w (some ⟨bb1,o1,none⟩) kc1 (kids1.take l1):=⟨k1.nodes.take l1,fun x hx=> k1.kid (List.mem_of_mem_take hx)⟩;have hk2:KidsIn w (some ⟨bb2,o2,none⟩) kc2 (kids2.take l2):=⟨k2.nodes.take l2,fun x hx=> k2.kid (List.mem_of_mem_take hx)⟩;have hn1:=fun (W:World) (h:Keeps [] w W)=> one_any (some ⟨bb1,o1,none⟩) kc1 (kids1.take l1) W (hk1.keep h);have hn2:=fun (W:World) (h:Keeps [] w W)=> one_any (some ⟨bb2,o2,none⟩) kc2 (kids2.take l2) W (hk2.keep h);rw [htl1] at hn1;rw [htl2] at hn2;have hs1:∀ W:World,(Instr.sliceAt 24 (M (some ⟨bb1,o1,none⟩) kids1.length kc1) none (some (H J l1)) none).run Tryz.prog W=.ok (M (some ⟨bb1,o1,none⟩) l1 kc1) W:=by
    intro W;have q1:(l1:Int)≤kc1:=by omega
    simp [go_sem,q1]
   have hs2:∀ W:World,(Instr.sliceAt 24 (M (some ⟨bb2,o2,none⟩) kids2.length kc2) none (some (H J l2)) none).run Tryz.prog W=.ok (M (some ⟨bb2,o2,none⟩) l2 kc2) W:=by
    intro W;have q1:(l2:Int)≤kc2:=by omega
    simp [go_sem,q1]
   have hB0:∀ x∈a.blocks,x∈(MRe.node op1 sa1 sc1 set1 (some ⟨bb1,o1,none⟩) kc1 kids1 mn1 mx1 mode1 n1 neg1).blocks ++ (MRe.node op2 sa2 sc2 set2 (some ⟨bb2,o2,none⟩) kc2 kids2 mn2 mx2 mode2 n2 neg2).blocks:=fun x hx=> List.mem_append_left _ (blocks_kid ha x hx);have hB1:=fun q hq=> List.mem_append_left (MRe.node op2 sa2 sc2 set2 (some ⟨bb2,o2,none⟩) kc2 kids2 mn2 mx2 mode2 n2 neg2).blocks (take_blocks (op:=op1) (sa:=sa1) (sc:=sc1) (set:=set1) (b:=bb1) (off:=o1) (kc:=kc1) (kids:=kids1) (mn:=mn1) (mx:=mx1) (mode:=mode1) (n:=n1) (neg:=neg1) l1 (by omega) q hq);have hB2:=fun q hq=> List.mem_append_right (MRe.node op1 sa1 sc1 set1 (some ⟨bb1,o1,none⟩) kc1 kids1 mn1 mx1 mode1 n1 neg1).blocks (take_blocks (op:=op2) (sa:=sa2) (sc:=sc2) (set:=set2) (b:=bb2) (off:=o2) (kc:=kc2) (kids:=kids2) (mn:=mn2) (mx:=mx2) (mode:=mode2) (n:=n2) (neg:=neg2) l2 (by omega) q hq);rw [htl1] at hB1;rw [htl2] at hB2;have HB0:=gi hB0;have HB1:=gi hB1;have HB2:=gi hB2;have HN1:=gi hn1;have HN2:=gi hn2;have ba:=(kids_bulk b1).2.2 _ ha;have bb:=(kids_bulk b2).2.2 _ hb;have HE:=fun W (h:Keeps [] w W)=> requal_any a b W (hao.keep h) (hbo.keep h) ba bb;have HAO:=gi hao;have hdt1:(MRe.trees kids1).take ((MRe.trees kids1).length - 1)=MRe.trees (kids1.take l1):=by rw [MRe.trees_length,hl1,Nat.add_sub_cancel,trees_take]
   have hdt2:(MRe.trees kids2).take ((MRe.trees kids2).length - 1)=MRe.trees (kids2.take l2):=by rw [MRe.trees_length,hl2,Nat.add_sub_cancel,trees_take]
   have hcd:(op1==2 && (op2==2 && eqB a.tree b.tree))=eqB a.tree b.tree:=by rw [h1,h2];rfl
   rw [hdt1,hdt2,hcd] at hR0;obtain ⟨q,hq⟩:∃ q,q=eqB a.tree b.tree:=⟨_,rfl⟩;rw [←hq] at hR0;simp only [←hq] at HE;obtain ⟨a00,ha00⟩:∃ a00,a00=a:=⟨_,rfl⟩;rw [←ha00] at hR0 HB0 HAO;have A00:=gi ha00;have HR0:=gi hR0;obtain ⟨op3,sa3,sc3,set3,ka3,kc3,kids3,mn3,mx3,mode3,n3,neg3⟩:=a;obtain ⟨op4,sa4,sc4,set4,ka4,kc4,kids4,mn4,mx4,mode4,n4,neg4⟩:=b;have g:=haa.node;obtain ⟨e0,e1,e2,e3,e4,e5,e6,e7⟩:=id g;clear g;have g:=hba.node;obtain ⟨f0,f1,f2,f3,f4,f5,f6,f7⟩:=id g;simp only [MRe.val] at HE;have HLT1:=gi k1.block_lt;obtain ⟨x0,x1,x2,x3,x4,x5,x6,x7⟩:=KY.o.c8 e0 e1 e2 e3 e4 e5 e6 e7;obtain ⟨y0,y1,y2,y3,y4,y5,y6,y7⟩:=KY.o.c8 f0 f1 f2 f3 f4 f5 f6 f7;have HCX:=gi (show (Y.cell? ⟨B,2,none⟩=some (M (some ⟨bb1,o1,none⟩) kids1.length kc1)∧Y.cell? ⟨B + 1,2,none⟩=some (M (some ⟨bb2,o2,none⟩) kids2.length kc2))∧(Y.cell? ⟨bb1,o1 + l1 * 8,none⟩=some (H J op3)∧Y.cell? ⟨bb1,o1 + l1 * 8 + 1,none⟩=some (M sa3 set3.length sc3)∧Y.cell? ⟨bb1,o1 + l1 * 8 + 2,none⟩=some (M ka3 kids3.length kc3)∧Y.cell? ⟨bb1,o1 + l1 * 8 + 3,none⟩=some (H J mn3)∧Y.cell? ⟨bb1,o1 + l1 * 8 + 4,none⟩=some (H J mx3)∧Y.cell? ⟨bb1,o1 + l1 * 8 + 5,none⟩=some (H J mode3)∧Y.cell? ⟨bb1,o1 + l1 * 8 + 6,none⟩=some (H J n3)∧Y.cell? ⟨bb1,o1 + l1 * 8 + 7,none⟩=some (F neg3)) from ⟨⟨c2,d2⟩,⟨x0,x1,x2,x3,x4,x5,x6,x7⟩⟩);have cE:∀ d os,Calls Tryz.prog 95 #[.agg #[H J op3,M sa3 set3.length sc3,M ka3 kids3.length kc3,H J mn3,H J mx3,H J mode3,H J n3,F neg3],.agg #[H J op4,M sa4 set4.length sc4,M ka4 kids4.length kc4,H J mn4,H J mx4,H J mode4,H J n4,F neg4]] (grow (redrawn Y d) os) fun e w''=> e=.returned (F q)∧∃ p:Regrown,w''=grow (redrawn Y p.d) p.os:=fun d os=> Calls.regrown_of ((HE _ (KY.o.trans (Keeps.of_below (below_regrown Y d os)))).mono fun e w' ⟨he,hk⟩=> ⟨he,hk.below (Nat.le_refl _)⟩);have CE:=gi cE;subst h1;subst h2;clear cE HE hq hR0 ha00 hcd hdt1 hdt2 ba bb hn1 hn2 hB0 hB1 hB2 hk1 hk2 hc1 hc2 he1 he2 htl1 htl2 hl1 hl2 i5 j5 ha haa hao hag hb hba hbo hbg g e0 e1 e2 e3 e4 e5 e6 e7 f0 f1 f2 f3 f4 f5 f6 f7 n1' n2' k1 k2 b1 b2;go_enter Tryz.func96,Tryz.ntmps96
   go_upto_region 1 with fail
   rw [←HYE.o,←HBE.o];go_upto_region 9 with fail
   have s0:=cell_regrown x0;have s1:=cell_regrown x1;have s2:=cell_regrown x2;have s3:=cell_regrown x3;have s4:=cell_regrown x4;have s5:=cell_regrown x5;have s6:=cell_regrown x6;have s7:=cell_regrown x7;have t0:=cell_regrown y0;have t1:=cell_regrown y1;have t2:=cell_regrown y2;have t3:=cell_regrown y3;have t4:=cell_regrown y4;have t5:=cell_regrown y5;have t6:=cell_regrown y6;have t7:=cell_regrown y7;have u2:=cell_regrown c2;have v2:=cell_regrown d2;clear c0 c1 c2 c3 c4 c5 c6 c7 d0 d1 d2 d3 d4 d5 d6 d7 x0 x1 x2 x3 x4 x5 x6 x7 y0 y1 y2 y3 y4 y5 y6 y7
   cases q with
   | false=>
    have HR:=gi (show R=none by rw [HR0.o];simp);refine wp_region_quiet_below (by kernel_rfl) (by kernel_rfl) ?_
    repeat (go_big_quiet_step (exact CE.o _ _))
    refine wpQuiet_nil ?_;intro _ hw';obtain ⟨pq,hw''⟩:=hw';subst hw'';have hk:=Keeps.of_below (below_regrown Y pq.d pq.os);have HK:=gi (KY.o.trans hk);clear hk s0 s1 s2 s3 s4 s5 s6 s7 t0 t1 t2 t3 t4 t5 t6 t7 u2 v2
    generalize grow (redrawn Y pq.d) pq.os=Z at *
    go_wp2
    go_ret2
    exact PairRes.of_none HR.o rfl HK.o
   | true=>
    have HR:=gi (show R=some [mkT 2 [mkT 3 [naryT 2 (MRe.trees (kids1.take l1)),naryT 2 (MRe.trees (kids2.take l2))],a00.tree]] by rw [HR0.o];simp);refine wp_region_quiet_below (by kernel_rfl) (by kernel_rfl) ?_
    repeat (go_big_quiet_step (exact CE.o _ _))
    refine wpQuiet_nil ?_;intro _ hw';obtain ⟨pq,hw''⟩:=hw';subst hw'';have hk:=Keeps.of_below (below_regrown Y pq.d pq.os);have HKZ:=gi hk;have HK:=gi (KY.o.trans hk);clear hk s0 s1 s2 s3 s4 s5 s6 s7 t0 t1 t2 t3 t4 t5 t6 t7 u2 v2
    generalize grow (redrawn Y pq.d) pq.os=Z at *
    obtain ⟨⟨c2,d2⟩,⟨x0,x1,x2,x3,x4,x5,x6,x7⟩⟩:=HCX.o;have u2:=HKZ.o.c c2;have v2:=HKZ.o.c d2;obtain ⟨y0,y1,y2,y3,y4,y5,y6,y7⟩:=HKZ.o.c8 x0 x1 x2 x3 x4 x5 x6 x7;clear c2 d2 x0 x1 x2 x3 x4 x5 x6 x7;go_upto_region 10 with fail
    refine rg (S:=fun w'=> (w'.cell? ⟨B,2,none⟩=some (M (some ⟨bb1,o1,none⟩) kids1.length kc1)∧w'.cell? ⟨B + 1,2,none⟩=some (M (some ⟨bb2,o2,none⟩) kids2.length kc2))∧(w'.cell? ⟨bb1,o1 + l1 * 8,none⟩=some (H J op3)∧w'.cell? ⟨bb1,o1 + l1 * 8 + 1,none⟩=some (M sa3 set3.length sc3)∧w'.cell? ⟨bb1,o1 + l1 * 8 + 2,none⟩=some (M ka3 kids3.length kc3)∧w'.cell? ⟨bb1,o1 + l1 * 8 + 3,none⟩=some (H J mn3)∧w'.cell? ⟨bb1,o1 + l1 * 8 + 4,none⟩=some (H J mx3)∧w'.cell? ⟨bb1,o1 + l1 * 8 + 5,none⟩=some (H J mode3)∧w'.cell? ⟨bb1,o1 + l1 * 8 + 6,none⟩=some (H J n3)∧w'.cell? ⟨bb1,o1 + l1 * 8 + 7,none⟩=some (F neg3))) (fun _ k=> ⟨⟨k.c u2,k.c v2⟩,⟨k.c y0,k.c y1,k.c y2,k.c y3,k.c y4,k.c y5,k.c y6,k.c y7⟩⟩) fun kz hHeld=> ?_;refine tk 0 ?_;refine tk 1 ?_;refine tk 2 ?_;refine tk 3 ?_;refine tk 4 ?_;refine tk 6 ?_;refine tk 7 ?_;refine tk 8 ?_;refine tk 9 ?_;refine tk 10 ?_;refine tk 14 ?_;refine tk 15 ?_;refine tk 16 ?_;refine tk 17 ?_;refine tk 18 ?_;refine tk 19 ?_;refine j6 5 fun K hK=> ?_;go_simp
    go_at_call 55
    refine Calls.mono (HN1.o _ (HK.o.drew)) ?_;rintro e w3 ⟨p1,rfl,ht1,ho1,hk3,hb1⟩;have K3:=gi (((Keeps.refl [] Z).drew).trans hk3);have T1:=gi ht1;have O1:=gi ho1;have L1:=gi hb1;obtain ⟨p10,hp10⟩:∃ p10,p10=p1:=⟨_,rfl⟩;rw [←hp10] at T1 O1 L1;have P1:=gi hp10;clear hk3 ht1 ho1 hb1 hp10;obtain ⟨op5,sa5,sc5,set5,ka5,kc5,kids5,mn5,mx5,mode5,n5,neg5⟩:=p1;simp only [MRe.val];refine hK.out _ _ (kz.o _ K3.o) fun hHeld=> ?_;clear hK K;try go_frame
    refine j6 11 fun K hK=> ?_;go_simp
    go_at_call 55
    refine Calls.mono (HN2.o _ (HK.o.trans K3.o)) ?_;rintro e w4 ⟨p2,rfl,ht2,ho2,hk4,hb2⟩;have E4:=gi hk4;have K4:=gi (K3.o.trans hk4);have T2:=gi ht2;have O2:=gi ho2;have L2:=gi hb2;obtain ⟨p20,hp20⟩:∃ p20,p20=p2:=⟨_,rfl⟩;rw [←hp20] at T2 O2 L2;have P2:=gi hp20;clear hk4 ht2 ho2 hb2 hp20;obtain ⟨op6,sa6,sc6,set6,ka6,kc6,kids6,mn6,mx6,mode6,n6,neg6⟩:=p2;simp only [MRe.val];refine hK.out _ _ (kz.o _ K4.o) fun hHeld=> ?_;clear hK K;try go_frame
    refine j6 12 fun K hK=> ?_;go_simp;have E5:=gi (K4.o.trans (Keeps.a1 w4 (.cells #[H J op5,M sa5 set5.length sc5,M ka5 kids5.length kc5,H J mn5,H J mx5,H J mode5,H J n5,F neg5,H J op6,M sa6 set6.length sc6,M ka6 kids6.length kc6,H J mn6,H J mx6,H J mode6,H J n6,F neg6] 26)));refine hK.out _ _ (kz.o _ E5.o) fun hHeld=> ?_;clear hK K;try go_frame
    refine tk 13 ?_;refine j6 20 fun K hK=> ?_;go_simp;have E6:=gi (E5.o.trans (Keeps.a1 _ (.cells #[H J 3,M none 0 0,M (some ⟨w4.heap.size,0,none⟩) 2 2,H J 0,H J 0,H J 0,H J 0,F false,H J op3,M sa3 set3.length sc3,M ka3 kids3.length kc3,H J mn3,H J mx3,H J mode3,H J n3,F neg3] 26)));refine hK.out _ _ (kz.o _ E6.o) fun hHeld=> ?_;clear hK K;try go_frame
    refine tk 21 ?_;refine j6 22 fun K hK=> ?_;go_simp;have E7:=gi (E6.o.trans (Keeps.a1 _ (.cells #[H J 2,M none 0 0,M (some ⟨w4.heap.size + 1,0,none⟩) 2 2,H J 0,H J 0,H J 0,H J 0,F false] 26)));refine hK.out _ _ (kz.o _ E7.o) fun hHeld=> ?_;clear hK K;try go_frame
    refine tk 23 ?_;refine tk 24 ?_;refine wd ?_;have hlo:w.heap.size≤w4.heap.size:=(HK.o.trans K4.o).size;obtain ⟨hK3,hF3⟩:=three_in2 (T1:=26) (T2:=26) (T3:=26) (p1:=3) (p2:=2) (lo:=w.heap.size) (HAO.o.keep (HK.o.trans K4.o)) (O1.o.keep E4.o) O2.o #[H J op5,M sa5 set5.length sc5,M ka5 kids5.length kc5,H J mn5,H J mx5,H J mode5,H J n5,F neg5,H J op6,M sa6 set6.length sc6,M ka6 kids6.length kc6,H J mn6,H J mx6,H J mode6,H J n6,F neg6] #[H J 3,M none 0 0,M (some ⟨w4.heap.size,0,none⟩) 2 2,H J 0,H J 0,H J 0,H J 0,F false,H J op3,M sa3 set3.length sc3,M ka3 kids3.length kc3,H J mn3,H J mx3,H J mode3,H J n3,F neg3] #[H J 2,M none 0 0,M (some ⟨w4.heap.size + 1,0,none⟩) 2 2,H J 0,H J 0,H J 0,H J 0,F false]
     (by rw [P1.o,P2.o];rfl) (by rw [A00.o];rfl) rfl hlo (From.of_mem HB0.o) (From.of_mem fun x hx=> HB1.o x (L1.o x hx)) (From.of_mem fun x hx=> HB2.o x (L2.o x hx))
    have HK3:=gi hK3;have HF3:=gi hF3;clear hK3 hF3 hlo u2 v2 y0 y1 y2 y3 y4 y5 y6 y7 hHeld;go_wp2
    go_ret2
    exact PairRes.of_some (some ⟨w4.heap.size + 2,0,none⟩) _ HR.o (by simp only [MRe.tree,MRe.trees,T1.o,T2.o];rfl) rfl HK3.o (HK.o.trans E7.o) HF3.o
  ·have hb:(op2==2)=false:=by simpa using h2
   have HR:=gi (show R=none by rw [hR0,hb];simp);clear hR0 n1' n2' k1 k2 f1 f2 b1 b2;subst h1;go_enter Tryz.func96,Tryz.ntmps96
   go_upto_region 1 with fail
   rw [←HYE.o,←HBE.o];go_upto_region 9 with fail
   go_quiet (fail)
   go_wp2
   go_ret2
   exact PairRes.of_none HR.o rfl (KY.o.drewN _)
 ·have hb:(op1==2)=false:=by simpa using h1
  have HR:=gi (show R=none by rw [hR0,hb];simp);clear hR0 n1' n2' k1 k2 f1 f2 b1 b2;go_enter Tryz.func96,Tryz.ntmps96
  go_upto_region 1 with fail
  rw [←HYE.o,←HBE.o];go_upto_region 9 with fail
  go_quiet (fail)
  go_wp2
  go_ret2
  exact PairRes.of_none HR.o rfl (KY.o.drewN _)
end Go.Proofs.YtjnlkjlbejelgaaGreat
