/- Part 40 of the proof. No condition: every lemma says its own. -/
import Derived.Test.YtjnlkjlbejelgaaGreatQbm
import Derived.Test.YtjnlkjlbejelgaaGreatQbj
import Derived.Test.YtjnlkjlbejelgaaGreatQap
import Derived.Test.YtjnlkjlbejelgaaGreatQbi
import Derived.Test.YtjnlkjlbejelgaaGreatQar
namespace Go.Proofs.YtjnlkjlbejelgaaGreat
open Go.RowKit
open Go.Value renaming int→H,slice→M,bool→F
open Go.IntKind renaming i64→J
set_option maxRecDepth 100000
set_option maxHeartbeats 16000000
theorem tree_five (w:World) (g:Nat) (la:Option Addr) (lc:Nat) (zs:List Int) (uses:Int) (h:MakerAt w g la lc zs uses):
  Calls Tryz.prog 73 #[.pointer (some ⟨g,0,none⟩),H J 5] w (GenPost w g la lc zs uses 2551):=by
 have t0:TreeGen 0 10:=tree_step (d:=0) (bd:=3) (fun d' h=> by omega) (by omega) (by omega);have t1:TreeGen 1 31:=tree_step (d:=1) (bd:=10) (fun d' h=> (show d'=0 by omega) ▸ t0) (by omega) (by omega);have t2:TreeGen 2 94:=tree_step (d:=2) (bd:=31) (fun d' h=> (show d'=1 by omega) ▸ t1) (by omega) (by omega);have t3:TreeGen 3 283:=tree_step (d:=3) (bd:=94) (fun d' h=> (show d'=2 by omega) ▸ t2) (by omega) (by omega);have t4:TreeGen 4 850:=tree_step (d:=4) (bd:=283) (fun d' h=> (show d'=3 by omega) ▸ t3) (by omega) (by omega);have t5:TreeGen 5 2551:=tree_step (d:=5) (bd:=850) (fun d' h=> (show d'=4 by omega) ▸ t4) (by omega) (by omega);exact t5 w g la lc zs uses h
theorem drewn_heap {w:World} {b:Nat} {o:Obj} (h:w.heap[b]? =some o):w.drew.heap[b]? =some o:=h
theorem sizePat:(Tryz.prog.info? 28).map (·.size)=some 10:=by kernel_rfl
def patVal (m:MRe) (cp:Int) (ru:Bool):Value:=.agg (m.row ++ [H J cp,Value.bool ru]).toArray
def PatPost (w:World) (e:Ending) (w':World):Prop:=
 ∃ (m:MRe) (cp:Int),e=.returned (patVal m cp false)∧m.OK w'∧Keeps [] w w'∧Fresh w.heap.size m.blocks∧m.tree.WF∧m.tree.bulk≤2551∧0≤cp∧cp≤4
@[reducible] def set10 (w:World) (g:Nat) (v0 v1 v2 v3 v4 v5 v6 v7 v8 v9:Value):World:=((((((((((w.setCell ⟨g,0,none⟩ v0).setCell ⟨g,1,none⟩ v1).setCell ⟨g,2,none⟩ v2).setCell ⟨g,3,none⟩ v3).setCell ⟨g,4,none⟩ v4).setCell ⟨g,5,none⟩ v5).setCell ⟨g,6,none⟩ v6).setCell ⟨g,7,none⟩ v7).setCell ⟨g,8,none⟩ v8).setCell ⟨g,9,none⟩ v9)
theorem set10_heap {w:World} {g T:Nat} {u0 u1 u2 u3 u4 u5 u6 u7 u8 u9:Value} (h:w.heap[g]? =some (.cells #[u0,u1,u2,u3,u4,u5,u6,u7,u8,u9] T (0,0))) (v0 v1 v2 v3 v4 v5 v6 v7 v8 v9:Value):(set10 w g v0 v1 v2 v3 v4 v5 v6 v7 v8 v9).heap[g]? =some (.cells #[v0,v1,v2,v3,v4,v5,v6,v7,v8,v9] T (0,0)):=by
 have h0:(w.setCell ⟨g,0,none⟩ v0).heap[g]? =some (.cells #[v0,u1,u2,u3,u4,u5,u6,u7,u8,u9] T (0,0)):=heap_setCell_same _ g 0 _ T v0 h;have h1:((w.setCell ⟨g,0,none⟩ v0).setCell ⟨g,1,none⟩ v1).heap[g]? =some (.cells #[v0,v1,u2,u3,u4,u5,u6,u7,u8,u9] T (0,0)):=heap_setCell_same _ g 1 _ T v1 h0;have h2:(((w.setCell ⟨g,0,none⟩ v0).setCell ⟨g,1,none⟩ v1).setCell ⟨g,2,none⟩ v2).heap[g]? =some (.cells #[v0,v1,v2,u3,u4,u5,u6,u7,u8,u9] T (0,0)):=heap_setCell_same _ g 2 _ T v2 h1;have h3:((((w.setCell ⟨g,0,none⟩ v0).setCell ⟨g,1,none⟩ v1).setCell ⟨g,2,none⟩ v2).setCell ⟨g,3,none⟩ v3).heap[g]? =some (.cells #[v0,v1,v2,v3,u4,u5,u6,u7,u8,u9] T (0,0)):=heap_setCell_same _ g 3 _ T v3 h2;have h4:(((((w.setCell ⟨g,0,none⟩ v0).setCell ⟨g,1,none⟩ v1).setCell ⟨g,2,none⟩ v2).setCell ⟨g,3,none⟩ v3).setCell ⟨g,4,none⟩ v4).heap[g]? =some (.cells #[v0,v1,v2,v3,v4,u5,u6,u7,u8,u9] T (0,0)):=heap_setCell_same _ g 4 _ T v4 h3;have h5:((((((w.setCell ⟨g,0,none⟩ v0).setCell ⟨g,1,none⟩ v1).setCell ⟨g,2,none⟩ v2).setCell ⟨g,3,none⟩ v3).setCell ⟨g,4,none⟩ v4).setCell ⟨g,5,none⟩ v5).heap[g]? =some (.cells #[v0,v1,v2,v3,v4,v5,u6,u7,u8,u9] T (0,0)):=heap_setCell_same _ g 5 _ T v5 h4;have h6:(((((((w.setCell ⟨g,0,none⟩ v0).setCell ⟨g,1,none⟩ v1).setCell ⟨g,2,none⟩ v2).setCell ⟨g,3,none⟩ v3).setCell ⟨g,4,none⟩ v4).setCell ⟨g,5,none⟩ v5).setCell ⟨g,6,none⟩ v6).heap[g]? =some (.cells #[v0,v1,v2,v3,v4,v5,v6,u7,u8,u9] T (0,0)):=heap_setCell_same _ g 6 _ T v6 h5;have h7:((((((((w.setCell ⟨g,0,none⟩ v0).setCell ⟨g,1,none⟩ v1).setCell ⟨g,2,none⟩ v2).setCell ⟨g,3,none⟩ v3).setCell ⟨g,4,none⟩ v4).setCell ⟨g,5,none⟩ v5).setCell ⟨g,6,none⟩ v6).setCell ⟨g,7,none⟩ v7).heap[g]? =some (.cells #[v0,v1,v2,v3,v4,v5,v6,v7,u8,u9] T (0,0)):=heap_setCell_same _ g 7 _ T v7 h6;have h8:(((((((((w.setCell ⟨g,0,none⟩ v0).setCell ⟨g,1,none⟩ v1).setCell ⟨g,2,none⟩ v2).setCell ⟨g,3,none⟩ v3).setCell ⟨g,4,none⟩ v4).setCell ⟨g,5,none⟩ v5).setCell ⟨g,6,none⟩ v6).setCell ⟨g,7,none⟩ v7).setCell ⟨g,8,none⟩ v8).heap[g]? =some (.cells #[v0,v1,v2,v3,v4,v5,v6,v7,v8,u9] T (0,0)):=heap_setCell_same _ g 8 _ T v8 h7;have h9:((((((((((w.setCell ⟨g,0,none⟩ v0).setCell ⟨g,1,none⟩ v1).setCell ⟨g,2,none⟩ v2).setCell ⟨g,3,none⟩ v3).setCell ⟨g,4,none⟩ v4).setCell ⟨g,5,none⟩ v5).setCell ⟨g,6,none⟩ v6).setCell ⟨g,7,none⟩ v7).setCell ⟨g,8,none⟩ v8).setCell ⟨g,9,none⟩ v9).heap[g]? =some (.cells #[v0,v1,v2,v3,v4,v5,v6,v7,v8,v9] T (0,0)):=heap_setCell_same _ g 9 _ T v9 h8;exact h9
theorem set10_keeps (w:World) (g:Nat) (v0 v1 v2 v3 v4 v5 v6 v7 v8 v9:Value):Keeps [g] w (set10 w g v0 v1 v2 v3 v4 v5 v6 v7 v8 v9):=
 (((((((((((Keeps.refl [g] w).setCell (.inl (by simp)) _).setCell (.inl (by simp)) _).setCell (.inl (by simp)) _).setCell (.inl (by simp)) _).setCell (.inl (by simp)) _).setCell (.inl (by simp)) _).setCell (.inl (by simp)) _).setCell (.inl (by simp)) _).setCell (.inl (by simp)) _).setCell (.inl (by simp)) _)
theorem row10_cells {w:World} {g T:Nat} {u0 u1 u2 u3 u4 u5 u6 u7 u8 u9:Value} (h:w.heap[g]? =some (.cells #[u0,u1,u2,u3,u4,u5,u6,u7,u8,u9] T (0,0))):
  w.cell? ⟨g,0,none⟩=some u0∧w.cell? ⟨g,1,none⟩=some u1∧w.cell? ⟨g,2,none⟩=some u2∧w.cell? ⟨g,3,none⟩=some u3∧w.cell? ⟨g,4,none⟩=some u4∧w.cell? ⟨g,5,none⟩=some u5∧w.cell? ⟨g,6,none⟩=some u6∧w.cell? ⟨g,7,none⟩=some u7∧w.cell? ⟨g,8,none⟩=some u8∧w.cell? ⟨g,9,none⟩=some u9∧(∀ o,w.frozen? ⟨g,o,none⟩=false):=by
 refine ⟨?_,?_,?_,?_,?_,?_,?_,?_,?_,?_,fun i=> ?_⟩ <;> simp [World.cell?,World.frozen?,h]
theorem pattern_any (la:Option Addr) (lc:Nat) (zs:List Int) (uses most:Int) (w:World) (hin:IntsIn w la zs) (hl:zs.length≤9223372036854775807) (hb:∀ x∈zs,I64 x):
  Calls Tryz.prog 38 #[M la zs.length lc,H J uses,H J most] w (PatPost w):=by
 go_enter Tryz.func38,Tryz.ntmps38
 obtain ⟨B,hBe⟩:∃ B,B=w.heap.size:=⟨_,rfl⟩;obtain ⟨X,hXe⟩:∃ X:World,X=(w.alloc (.cells #[H J 0,M none 0 0,M none 0 0,H J 0,H J 0,H J 0,H J 0,F false,H J 0,F false] 28)).alloc (.cells #[M la zs.length lc,H J 0,H J uses,H J most,H J 0] 99):=⟨_,rfl⟩;have hkX:Keeps [] w X:=by rw [hXe];exact Keeps.a2 _ _ _
 have hz:X.heap[B]? =some (.cells #[H J 0,M none 0 0,M none 0 0,H J 0,H J 0,H J 0,H J 0,F false,H J 0,F false] 28 (0,0)):=by rw [hXe,hBe];exact (Keeps.a1 _ _).heap (heap_alloc_new w _) (by simp)
 have hg:X.heap[B + 1]? =some (.cells #[M la zs.length lc,H J 0,H J uses,H J most,H J 0] 99 (0,0)):=by rw [hXe,hBe];exact heap_alloc2_new w _ _
 have hm:MakerAt X (B + 1) la lc zs uses:=⟨hin.keepS hkX (fun _ _=> by simp),hl,hb,fun h0 a ha=> ⟨Nat.lt_of_lt_of_le (hin.lt h0 a ha) hkX.size,by have:=hin.lt h0 a ha;omega⟩,0,most,0,by omega,by omega,hg⟩;have HM:=gi hm;have HKX:=gi hkX;have HZ:=gi hz;have HXE:=gi hXe;have HBE:=gi hBe;clear hin hb hkX hz hg hm hXe hBe hl;go_wp2_with fail
 rw [←HXE.o,←HBE.o];refine Calls.mono (tree_five X (B + 1) la lc zs uses HM.o) ?_;rintro e w2 ⟨m,rfl,hmo,hmm,hmk,hmf,hmw,hmb⟩;obtain ⟨at1,lf1,cp1,h01,h11,hr1⟩:=hmm.row;obtain ⟨c0,c1,c2,c3,c4,cf⟩:=row5_cells hr1;have HK2:=gi hmk;have HO:=gi hmo;have HF:=gi hmf;have HW:=gi hmw;have HBD:=gi hmb;obtain ⟨m0,hm0⟩:∃ m0,m0=m:=⟨_,rfl⟩;rw [←hm0] at HO HF HW HBD;have HM0:=gi hm0;obtain ⟨op2,sa2,sc2,set2,ka2,kc2,kids2,mn2,mx2,mode2,n2,neg2⟩:=m;simp only [MRe.val];clear hmo hmm hmk hmf hmw hmb hm0 hr1;go_upto_region 3 with fail
 obtain ⟨Y,hY⟩:∃ Y,Y=w2.alloc (.cells #[H J op2,M sa2 set2.length sc2,M ka2 kids2.length kc2,H J mn2,H J mx2,H J mode2,H J n2,F neg2] 26):=⟨_,rfl⟩;have hkY:Keeps [] w2 Y:=by rw [hY];exact Keeps.a1 _ _
 have hL:Y.heap[w2.heap.size]? =some (.cells #[H J op2,M sa2 set2.length sc2,M ka2 kids2.length kc2,H J mn2,H J mx2,H J mode2,H J n2,F neg2] 26 (0,0)):=by rw [hY];exact heap_alloc_new w2 _
 rw [←hY];obtain ⟨y0,y1,y2,y3,y4,y5,y6,y7⟩:=row_cells hL;have e4:=hkY.c c4;have HKY:=gi (HK2.o.trans (hkY.mono (S':=[B + 1]) (by simp)));have HOY:=gi (HO.o.keep hkY);have HLB:=gi (show w2.heap.size≠B by have:=HK2.o.size;have:=lt_of_block HZ.o;omega);have HZY:=gi (HKY.o.h HZ.o);have HCP:=gi (And.intro h01 h11);clear hY hkY hL c0 c1 c2 c3 c4 cf h01 h11;refine rg (S:=fun w'=> w'.cell? ⟨B + 1,4,none⟩=some (H J cp1)∧w'.cell? ⟨w2.heap.size,0,none⟩=some (H J op2)∧w'.cell? ⟨w2.heap.size,1,none⟩=some (M sa2 set2.length sc2)∧w'.cell? ⟨w2.heap.size,2,none⟩=some (M ka2 kids2.length kc2)∧w'.cell? ⟨w2.heap.size,3,none⟩=some (H J mn2)∧w'.cell? ⟨w2.heap.size,4,none⟩=some (H J mx2)∧w'.cell? ⟨w2.heap.size,5,none⟩=some (H J mode2)∧w'.cell? ⟨w2.heap.size,6,none⟩=some (H J n2)∧w'.cell? ⟨w2.heap.size,7,none⟩=some (F neg2)) (fun _ k=> ⟨k.c e4,k.c y0,k.c y1,k.c y2,k.c y3,k.c y4,k.c y5,k.c y6,k.c y7⟩) fun kz hHeld=> ?_;refine tk 0 ?_;refine tk 1 ?_;refine tk 2 ?_;refine tk 3 ?_;refine tk 4 ?_;refine tk 5 ?_;obtain ⟨z0,z1,z2,z3,z4,z5,z6,z7,z8,z9,zf⟩:=row10_cells HZY.o;refine j6 6 fun K hK=> ?_;go_simp;have kS:=set10_keeps Y B (H J op2) (M sa2 set2.length sc2) (M ka2 kids2.length kc2) (H J mn2) (H J mx2) (H J mode2) (H J n2) (F neg2) (H J cp1) (F false);have KS:=gi kS;have H1:=gi (drewn_heap (set10_heap HZY.o (H J op2) (M sa2 set2.length sc2) (M ka2 kids2.length kc2) (H J mn2) (H J mx2) (H J mode2) (H J n2) (F neg2) (H J cp1) (F false)));have H2:=gi ((HOY.o.keepS kS fun b hb=> by have:=HF.o b hb;have:=lt_of_block HZ.o;simp;omega).keep (Keeps.refl [] _).drew);have H3:=gi (show Keeps [] w _ from ((HKX.o.after HKY.o (by intro q hq;simp at hq;subst hq;exact .inr (by have:=HBE.o;omega))).after kS (by intro q hq;simp at hq;subst hq;exact .inr (by have:=HBE.o;omega))).drew);clear kS;refine hK.out _ _ (⟨KS.o.drew.c e4,KS.o.drew.cell y0 (by simp;exact HLB.o),KS.o.drew.cell y1 (by simp;exact HLB.o),KS.o.drew.cell y2 (by simp;exact HLB.o),KS.o.drew.cell y3 (by simp;exact HLB.o),KS.o.drew.cell y4 (by simp;exact HLB.o),KS.o.drew.cell y5 (by simp;exact HLB.o),KS.o.drew.cell y6 (by simp;exact HLB.o),KS.o.drew.cell y7 (by simp;exact HLB.o)⟩) (fun hHeld=> ?_);clear hK K;try go_frame
 refine wd ?_;clear hHeld z0 z1 z2 z3 z4 z5 z6 z7 z8 z9 zf y0 y1 y2 y3 y4 y5 y6 y7 e4;go_wp2;refine bodyPost_ret (results_cell_row rfl _ _ B 28 #[H J op2,M sa2 set2.length sc2,M ka2 kids2.length kc2,H J mn2,H J mx2,H J mode2,H J n2,F neg2,H J cp1,F false] (0,0) _ rfl H1.o Tryz.underlying28 rfl sizePat) rfl ?_;exact ⟨m0,cp1,by rw [HM0.o];rfl,H2.o,H3.o,fun b hb=> Nat.le_trans HKX.o.size (HF.o b hb),HW.o,HBD.o,HCP.o.1,HCP.o.2⟩
def validE (t:Tree) (cp:Int) (ru:Bool):Int:=
 if 256 < sizeT t∨24 < depthT t then 4 else if cp < 0∨9 < cp∨wholeT cp (if ru then 1114111 else 255) t=false then 1 else 0
theorem rvalid_any (m:MRe) (cp:Int) (ru:Bool) (w:World) (k1:m.OK w) (hb:m.tree.bulk≤1000000):
  Calls Tryz.prog 43 #[patVal m cp ru] w fun e w'=> e=.returned (H J (validE m.tree cp ru))∧Keeps [] w w':=by
 obtain ⟨R,hR0⟩:∃ R,R=validE m.tree cp ru:=⟨_,rfl⟩;rw [←hR0];obtain ⟨sz,hsz⟩:∃ sz,sz=sizeT m.tree:=⟨_,rfl⟩;obtain ⟨dp,hdp⟩:∃ dp,dp=depthT m.tree:=⟨_,rfl⟩;have hsd:=size_depth m.tree;rw [←hsz,←hdp] at hsd;unfold validE at hR0;rw [←hsz,←hdp] at hR0;have HS:=fun W (h:Keeps [] w W)=> rsize_any m W (k1.keep h) hb;have HD:=fun W (h:Keeps [] w W)=> rdepth_any m W (k1.keep h) hb;have HW:=fun top (ht:top≤2000000) W (h:Keeps [] w W)=> rwhole_any cp top ht m W (k1.keep h);simp only [←hsz] at HS;simp only [←hdp] at HD;obtain ⟨op,sa,sc,set,ka,kc,kids,mn,mx,mode,n,neg⟩:=m;simp only [MRe.val] at HS HD HW;have HS:=gi HS;have HD:=gi HD;have HR0:=gi hR0;obtain ⟨B,hBe⟩:∃ B,B=w.heap.size:=⟨_,rfl⟩;obtain ⟨Y,hYe⟩:∃ Y,Y=w.alloc (.cells #[H J op,M sa set.length sc,M ka kids.length kc,H J mn,H J mx,H J mode,H J n,F neg,H J cp,F ru] 28):=⟨_,rfl⟩;have hkY:Keeps [] w Y:=by rw [hYe];exact Keeps.a1 _ _
 obtain ⟨c0,c1,c2,c3,c4,c5,c6,c7,c8,c9,cf⟩:=row10_cells (show Y.heap[B]? =some (.cells #[H J op,M sa set.length sc,M ka kids.length kc,H J mn,H J mx,H J mode,H J n,F neg,H J cp,F ru] 28 (0,0)) by rw [hYe,hBe];exact heap_alloc_new w _);have HYE:=gi hYe;have HBE:=gi hBe;have KY:=gi hkY;have hs1:sz≤1000000:=by omega
 have hs2:dp≤1000000:=by omega
 have HWW:=gi HW;clear hYe hBe hkY hR0 k1 hb hsd hsz hdp HW
 show Calls Tryz.prog 43 #[.agg #[H J op,M sa set.length sc,M ka kids.length kc,H J mn,H J mx,H J mode,H J n,F neg,H J cp,F ru]] w _
 go_enter Tryz.func43,Tryz.ntmps43
 go_upto_region 1 with fail
 rw [←HYE.o,←HBE.o];go_wp2_with fail
 refine Calls.mono (HS.o _ KY.o) ?_;rintro e w2 ⟨rfl,hk2⟩;have K2:=gi (KY.o.trans hk2);have Y8:=gi (hk2.c c8);have Y9:=gi (hk2.c c9);obtain ⟨d0,d1,d2,d3,d4,d5,d6,d7⟩:=hk2.c8 c0 c1 c2 c3 c4 c5 c6 c7;clear hk2 c0 c1 c2 c3 c4 c5 c6 c7 c8 c9 cf
 by_cases hg1:256 < sz
 ·have HR:=gi (show R=4 by rw [HR0.o,if_pos (.inl hg1)]);have hgi:(256:Int) < (sz:Int):=by omega
  go_wp2;go_ret;exact ⟨by rw [HR.o];rfl,K2.o⟩
 ·have hgi:¬ (256:Int) < (sz:Int):=by omega
  go_wp2_with fail
  refine Calls.mono (HD.o _ K2.o) ?_;rintro e w3 ⟨rfl,hk3⟩;have K3:=gi (K2.o.trans hk3);have e8:=hk3.c Y8.o;have e9:=hk3.c Y9.o;obtain ⟨e0,e1,e2,e3,e4,e5,e6,e7⟩:=hk3.c8 d0 d1 d2 d3 d4 d5 d6 d7;clear hk3 d0 d1 d2 d3 d4 d5 d6 d7
  by_cases hg2:24 < dp
  ·have HR:=gi (show R=4 by rw [HR0.o,if_pos (.inr hg2)]);have hg2i:(24:Int) < (dp:Int):=by omega
   go_wp2;go_ret;exact ⟨by rw [HR.o];rfl,K3.o⟩
  ·have hg2i:¬ (24:Int) < (dp:Int):=by omega
   cases ru with
   | true=>
    have HR1:=gi (show R=if cp < 0∨9 < cp∨wholeT cp 1114111 (MRe.tree (.node op sa sc set ka kc kids mn mx mode n neg))=false then 1 else 0 by rw [HR0.o,if_neg (by omega)];rfl);have HWC:=gi (HWW.o 1114111 (by omega))
    by_cases hc1:cp < 0
    ·have HR:=gi (show R=1 by rw [HR1.o,if_pos (.inl hc1)]);go_wp2;go_ret;exact ⟨by rw [HR.o];rfl,K3.o⟩
    ·by_cases hc2:9 < cp
     ·have HR:=gi (show R=1 by rw [HR1.o,if_pos (.inr (.inl hc2))]);go_wp2;go_ret;exact ⟨by rw [HR.o];rfl,K3.o⟩
     ·obtain ⟨wh,hwh⟩:∃ wh,wh=wholeT cp 1114111 (MRe.tree (.node op sa sc set ka kc kids mn mx mode n neg)):=⟨_,rfl⟩;rw [←hwh] at HWC HR1;clear hwh;go_wp2_with fail
      refine Calls.mono (HWC.o _ K3.o) ?_;rintro e w4 ⟨rfl,hk4⟩;have K4:=gi (K3.o.trans hk4);clear hk4 e0 e1 e2 e3 e4 e5 e6 e7 e8 e9
      cases wh with
      | false=>
       have HR:=gi (show R=1 by rw [HR1.o,if_pos (.inr (.inr rfl))]);go_wp2;go_ret;exact ⟨by rw [HR.o];rfl,K4.o⟩
      | true=>
       have HR:=gi (show R=0 by rw [HR1.o,if_neg (by intro h;rcases h with h | h | h;omega;omega;cases h)]);go_wp2;go_ret;exact ⟨by rw [HR.o];rfl,K4.o⟩
   | false=>
    have HR1:=gi (show R=if cp < 0∨9 < cp∨wholeT cp 255 (MRe.tree (.node op sa sc set ka kc kids mn mx mode n neg))=false then 1 else 0 by rw [HR0.o,if_neg (by omega)];rfl);have HWC:=gi (HWW.o 255 (by omega))
    by_cases hc1:cp < 0
    ·have HR:=gi (show R=1 by rw [HR1.o,if_pos (.inl hc1)]);go_wp2;go_ret;exact ⟨by rw [HR.o];rfl,K3.o⟩
    ·by_cases hc2:9 < cp
     ·have HR:=gi (show R=1 by rw [HR1.o,if_pos (.inr (.inl hc2))]);go_wp2;go_ret;exact ⟨by rw [HR.o];rfl,K3.o⟩
     ·obtain ⟨wh,hwh⟩:∃ wh,wh=wholeT cp 255 (MRe.tree (.node op sa sc set ka kc kids mn mx mode n neg)):=⟨_,rfl⟩;rw [←hwh] at HWC HR1;clear hwh;go_wp2_with fail
      refine Calls.mono (HWC.o _ K3.o) ?_;rintro e w4 ⟨rfl,hk4⟩;have K4:=gi (K3.o.trans hk4);clear hk4 e0 e1 e2 e3 e4 e5 e6 e7 e8 e9
      cases wh with
      | false=>
       have HR:=gi (show R=1 by rw [HR1.o,if_pos (.inr (.inr rfl))]);go_wp2;go_ret;exact ⟨by rw [HR.o];rfl,K4.o⟩
      | true=>
       have HR:=gi (show R=0 by rw [HR1.o,if_neg (by intro h;rcases h with h | h | h;omega;omega;cases h)]);go_wp2;go_ret;exact ⟨by rw [HR.o];rfl,K4.o⟩
theorem whole_ok {caps top:Int} (ht:top≤1114111):∀ t:Tree,wholeT caps top t=true→t.WF∧t.bulk≤65 * sizeT t:=by
 intro t
 induction t using Tree.induct with
 | h op set kids mn mx mode n neg ih=>
  intro h;simp only [wholeT,Bool.and_eq_true,wholeTs_iff,List.all_eq_true] at h;obtain ⟨h1,h2⟩:=h;have hn:NodeOK op set kids.length mn mx mode n neg:=formedB_ok ht h1;have hset:set.length≤64:=by
   by_cases ho:op=1
   ·exact (hn.hset ho).2
   ·rw [hn.hnset ho];simp
  have hs:∀ l:List Tree,(∀ k∈l,k.WF∧k.bulk≤65 * sizeT k)→Tree.bulks l≤65 * sizeTs l:=by
   intro l
   induction l with
   | nil=> intro _;exact Nat.le_refl _
   | cons x r ih2=>
    intro h;have h1:=(h x (by simp)).2;have h2:=ih2 (fun k hk=> h k (by simp [hk]));simp only [sizeTs,Tree.bulks];omega
  have hk:=hs kids fun k hk=> ih k hk (h2 k hk);refine ⟨.mk hn fun k hk=> (ih k hk (h2 k hk)).1,?_⟩;simp only [sizeT,Tree.bulk];omega
theorem valid_ok {t:Tree} {cp:Int} {ru:Bool} (h:validE t cp ru=0):t.WF∧t.bulk≤16640∧0≤cp∧cp≤9:=by
 unfold validE at h
 by_cases h1:256 < sizeT t∨24 < depthT t
 ·rw [if_pos h1] at h;omega
 ·rw [if_neg h1] at h
  by_cases h2:cp < 0∨9 < cp∨wholeT cp (if ru then 1114111 else 255) t=false
  ·rw [if_pos h2] at h;omega
  ·have hw:wholeT cp (if ru then 1114111 else 255) t=true:=by
    cases hq:wholeT cp (if ru then 1114111 else 255) t with
    | true=> rfl
    | false=> exact absurd (.inr (.inr hq)) h2
   have:=whole_ok (by cases ru <;> simp) t hw
   exact ⟨this.1,by omega,by omega,by omega⟩
def atT:Tree→List Int→Option Tree
 | t,[]=> some t
 | t,x::r=> if 0≤x∧x < t.kids.length then atT (t.kids.getD x.toNat .nil) r else none
def AtPost (w:World) (src:List Nat) (err:Int) (o:Option Tree) (e:Ending) (w':World):Prop:=
 ∃ m:MRe,e=.returned (.tuple #[m.val,H J (if o.isSome then 0 else err)])∧m.tree=o.getD .nil∧m.OK w'∧Keeps [] w w'∧From w.heap.size src m.blocks
theorem AtPost.of_some {w:World} {src:List Nat} {err:Int} {o:Option Tree} {e:Ending} {w':World} (r:MRe) (h:o=some r.tree) (he:e=.returned (.tuple #[r.val,H J 0])) (hr:r.OK w') (hk:Keeps [] w w') (hb:From w.heap.size src r.blocks):AtPost w src err o e w':=by subst h;exact ⟨r,he,rfl,hr,hk,hb⟩
theorem AtPost.of_none {w:World} {src:List Nat} {err:Int} {o:Option Tree} {e:Ending} {w':World} (h:o=none) (he:e=.returned (.tuple #[MRe.nil.val,H J err])) (hk:Keeps [] w w'):AtPost w src err o e w':=by
 subst h;exact ⟨MRe.nil,he,rfl,MRe.OK.nil _,hk,by intro b hb;simp [MRe.nil,MRe.blocks,MRe.blocksL,blockIf] at hb⟩
theorem IntsIn.tail {w:World} {b o pc:Nat} {x:Int} {r:List Int} (h:IntsIn w (some ⟨b,o,none⟩) (x::r)) (hc:r.length + 1≤pc):IntsIn w (if pc=1 then some ⟨b,o,none⟩ else some ⟨b,o + 1,none⟩) r:=fun h0=> by
 obtain ⟨b',o',he,hx⟩:=h (by simp)
 cases he
 rw [if_neg (by omega)];refine ⟨b,o + 1,rfl,fun j hj=> ?_⟩
 have:=hx (j + 1) (by simpa using hj)
 rw [Nat.add_assoc,Nat.add_comm 1 j,this]
 simp
theorem rat_any (path:List Int):∀ (m:MRe) (pa:Option Addr) (pc:Nat) (w:World),m.OK w→IntsIn w pa path→path.length≤pc→path.length≤1000000→
  Calls Tryz.prog 10 #[m.val,M pa path.length pc] w (AtPost w m.blocks 7 (atT m.tree path)):=by
 induction path with
 | nil=>
  intro m pa pc w k1 hin hc hl;have HLT:=gi k1.block_lt;obtain ⟨R,hR0⟩:∃ R,R=atT m.tree []:=⟨_,rfl⟩;rw [←hR0];obtain ⟨op,sa,sc,set,ka,kc,kids,mn,mx,mode,n,neg⟩:=m;have HR:=gi (show R=some (MRe.tree (.node op sa sc set ka kc kids mn mx mode n neg)) by rw [hR0,atT]);obtain ⟨B,X,HBE,HXE,HC,HZ,hsz,HKX⟩:=pre0 w op sa sc set ka kc kids mn mx mode n neg;have HO:=gi (k1.keep HKX.o);clear hR0 hin k1 hsz hc hl;simp only [MRe.val,List.length_nil];obtain ⟨c0,c1,c2,c3,c4,c5,c6,c7⟩:=HC.o.cells0;go_enter Tryz.func10,Tryz.ntmps10
  go_upto_region 1 with fail
  rw [←HXE.o,←HBE.o];obtain ⟨z0,z1,z2,z3,z4,z5,z6,z7,zf⟩:=zero_cells HZ.o;obtain ⟨H1,H2,H3,H4⟩:=js (rule_store HBE.o HKX.o (Keeps.refl [] X) HZ.o HO.o (From.refl _ _) HLT.o);go_wp2;refine rt H1.o ?_;exact AtPost.of_some (.node op sa sc set ka kc kids mn mx mode n neg) HR.o rfl H2.o H3.o H4.o
 | cons x r ih=>
  intro m pa pc w k1 hin hc hl;have HLT:=gi k1.block_lt;have HIH:=gi ih;obtain ⟨R,hR0⟩:∃ R,R=atT m.tree (x::r):=⟨_,rfl⟩;rw [←hR0];obtain ⟨pb,po,rfl,hpx⟩:=hin (by simp);have p0:=hpx 0 (by simp);rw [Nat.add_zero,List.getD_cons_zero] at p0;have hlen:(x::r).length=r.length + 1:=rfl;rw [hlen] at hc hl ⊢;have HPB:=gi (show pb < w.heap.size from World.block_lt_of_cell? _ _ p0);have HPT:=gi (hin.tail (pc:=pc) hc);obtain ⟨op,sa,sc,set,ka,kc,kids,mn,mx,mode,n,neg⟩:=m;replace hR0:R=if 0≤x∧x < (MRe.trees kids).length then atT ((MRe.trees kids).getD x.toNat .nil) r else none:=by rw [hR0,atT];rfl
  rw [MRe.trees_length] at hR0;have hcap:=k1.nodes.cap;have hle:=k1.nodes.le;unfold maxLen at hcap;have HK:=gi k1.kids;obtain ⟨B,X,HBE,HXE,HC,HZ,hsz,HKX⟩:=pre0 w op sa sc set ka kc kids mn mx mode n neg;have HXS:=gi hsz;have q0:=HKX.o.c p0;clear ih hpx hin p0 hlen hsz;simp only [MRe.val]
  by_cases hx:0≤x∧x < kids.length
  ·obtain ⟨hx0,hx1⟩:=hx;obtain ⟨i,rfl⟩:∃ i:Nat,x=(i:Int):=⟨x.toNat,by omega⟩;have hi:i < kids.length:=by omega
   have hin0:¬ (kids.length:Int)≤(i:Int):=by omega
   have hnn:¬ (i:Int) < 0:=by omega
   rw [if_pos ⟨hx0,hx1⟩,Int.toNat_natCast,show (MRe.trees kids).getD i .nil=(kids[i]'hi).tree by rw [List.getD_eq_getElem?_getD,List.getElem?_eq_getElem (by rw [MRe.trees_length];omega),Option.getD_some,trees_getElem]] at hR0;obtain ⟨b,off,rfl,hbb,hkx⟩:=k1.kids.nodes.kid (by omega);have hmi:kids[i]'hi∈kids:=List.getElem_mem hi;have HMI:=gi (show ∀ x∈(kids[i]'hi).blocks,x∈(MRe.node op sa sc set (some ⟨b,off,none⟩) kc kids mn mx mode n neg).blocks from blocks_kid hmi);have HOI:=gi (k1.kid hmi);have hxi:=hkx i hi;have HBB:=gi hbb;obtain ⟨mi,hme⟩:∃ mi,mi=(kids[i]'hi):=⟨_,rfl⟩;rw [←hme] at HMI HOI hxi hR0;obtain ⟨T,hT⟩:∃ T,T=mi.tree:=⟨_,rfl⟩;rw [←hT] at hR0;have HCALL:=fun (W:World) (h:Keeps [] w W)=> HIH.o mi (if pc=1 then some ⟨pb,po,none⟩ else some ⟨pb,po + 1,none⟩) (pc - 1) W (HOI.o.keep h) (HPT.o.keepS h (fun _ _=> by simp)) (by omega) (by omega);rw [←hT] at HCALL;rw [←hR0] at HCALL;obtain ⟨src,hsrc⟩:∃ src,src=mi.blocks:=⟨_,rfl⟩;simp only [←hsrc] at HCALL;have HSRC:=gi (show ∀ x∈src,x∈(MRe.node op sa sc set (some ⟨b,off,none⟩) kc kids mn mx mode n neg).blocks by rw [hsrc];exact HMI.o);have hsl:∀ W:World,(Instr.sliceAt 22 (M (some ⟨pb,po,none⟩) (r.length + 1) pc) (some (H J 1)) none none).run Tryz.prog W=.ok (M (if pc=1 then some ⟨pb,po,none⟩ else some ⟨pb,po + 1,none⟩) r.length (pc - 1)) W:=by
    intro W;have q1:¬ ((r.length:Int) + 1 < 1):=by omega
    simp [go_sem,q1]
   obtain ⟨pa2,hpa2⟩:∃ pa2,pa2=(if pc=1 then some (⟨pb,po,none⟩:Addr) else some ⟨pb,po + 1,none⟩):=⟨_,rfl⟩;rw [←hpa2] at hsl;simp only [←hpa2] at HCALL;obtain ⟨op1,sa1,sc1,set1,ka1,kc1,kids1,mn1,mx1,mode1,n1,neg1⟩:=mi;have g:=hxi.node;obtain ⟨e0,e1,e2,e3,e4,e5,e6,e7⟩:=id g;obtain ⟨f0,f1,f2,f3,f4,f5,f6,f7⟩:=HKX.o.c8 e0 e1 e2 e3 e4 e5 e6 e7;simp only [MRe.val] at HCALL;have HCALL:=gi HCALL;clear g e0 e1 e2 e3 e4 e5 e6 e7 hkx hmi hme hxi hT hsrc hR0 k1 hbb hpa2 hi;have hin:i < kids.length:=by omega
   have hl0:((r.length:Int) + 1==0)=false:=by simp;omega
   obtain ⟨c0,c1,c2,c3,c4,c5,c6,c7⟩:=HC.o.cells0;go_enter Tryz.func10,Tryz.ntmps10
   go_upto_region 1 with fail
   rw [←HXE.o,←HBE.o];go_wp2_with fail
   refine rg (S:=fun w'=> w'.cell? ⟨B,2,none⟩=some (M (some ⟨b,off,none⟩) kids.length kc)∧w'.cell? ⟨pb,po,none⟩=some (H J i)) (fun _ k=> ⟨k.c c2,k.c q0⟩) fun kz hHeld=> ?_;refine tk 0 ?_;refine tk 1 ?_;refine tk 2 ?_;refine tk 3 ?_;refine tk 4 ?_;refine tk 5 ?_;refine tk 6 ?_;refine tk 7 ?_;refine tk 8 ?_;refine tk 9 ?_;refine tk 10 ?_;refine tk 11 ?_;refine tk 12 ?_;refine wd ?_;obtain ⟨W,hWe⟩:∃ W,W=X.drew:=⟨_,rfl⟩;rw [←hWe];have K3:=gi (show Keeps [] X W by rw [hWe];exact (Keeps.refl [] X).drew);have v2:=K3.o.c c2;have t0:=K3.o.c q0;obtain ⟨g0,g1,g2,g3,g4,g5,g6,g7⟩:=K3.o.c8 f0 f1 f2 f3 f4 f5 f6 f7;clear hHeld hWe c0 c1 c2 c3 c4 c5 c6 c7 q0 f0 f1 f2 f3 f4 f5 f6 f7;go_wp2_with fail
   refine rg (S:=fun w'=> w'.cell? ⟨B,2,none⟩=some (M (some ⟨b,off,none⟩) kids.length kc)∧w'.cell? ⟨pb,po,none⟩=some (H J i)∧w'.cell? ⟨b,off + i * 8,none⟩=some (H J op1)∧w'.cell? ⟨b,off + i * 8 + 1,none⟩=some (M sa1 set1.length sc1)∧w'.cell? ⟨b,off + i * 8 + 2,none⟩=some (M ka1 kids1.length kc1)∧w'.cell? ⟨b,off + i * 8 + 3,none⟩=some (H J mn1)∧w'.cell? ⟨b,off + i * 8 + 4,none⟩=some (H J mx1)∧w'.cell? ⟨b,off + i * 8 + 5,none⟩=some (H J mode1)∧w'.cell? ⟨b,off + i * 8 + 6,none⟩=some (H J n1)∧w'.cell? ⟨b,off + i * 8 + 7,none⟩=some (F neg1)) (fun _ k=> ⟨k.c v2,k.c t0,k.c g0,k.c g1,k.c g2,k.c g3,k.c g4,k.c g5,k.c g6,k.c g7⟩) fun kz hHeld=> ?_;refine tk 0 ?_;refine tk 1 ?_;refine tk 2 ?_;refine tk 3 ?_;refine tk 4 ?_;refine tk 5 ?_;refine tk 6 ?_;refine tk 7 ?_;refine tk 8 ?_;refine j6 9 fun K hK=> ?_;go_simp;refine Calls.mono (HCALL.o _ (HKX.o.trans K3.o.drew)) ?_;rintro e w8 ⟨q,rfl,hqt,hqo,hk8,hqf⟩;have E8:=gi (((Keeps.refl [] W).drew).trans hk8);have K8:=gi (K3.o.drew.trans hk8);have QT:=gi hqt;have QO:=gi hqo;have QF:=gi hqf;obtain ⟨q0,hq0⟩:∃ q0,q0=q:=⟨_,rfl⟩;rw [←hq0] at QT QO QF;have Q0:=gi hq0;clear hqt hqo hk8 hqf hq0;obtain ⟨op9,sa9,sc9,set9,ka9,kc9,kids9,mn9,mx9,mode9,n9,neg9⟩:=q;obtain ⟨er,her⟩:∃ er:Int,er=(if R.isSome then 0 else 7):=⟨_,rfl⟩;simp only [MRe.val,←her];have HER:=gi her;clear her;refine hK.out _ _ (kz.o _ E8.o) fun hHeld=> ?_;clear hK K;try go_frame
   refine tk 10 ?_;refine tk 11 ?_;obtain ⟨z0,z1,z2,z3,z4,z5,z6,z7,zf⟩:=zero_cells (K8.o.h HZ.o);have hfr:=swap_from (lo:=B + 2) (src:=(MRe.node op sa sc set (some ⟨b,off,none⟩) kc kids mn mx mode n neg).blocks) (add:=[]) (fun y hy=> by
    rcases QF.o y hy with h | h
    ·exact .inl (by rw [List.append_nil];exact HSRC.o y h)
    ·exact .inr h) (fun _ h=> by simp at h) (Nat.le_trans HXS.o K3.o.size)
   rw [Q0.o] at hfr;obtain ⟨hR,hok,hke,hfr2⟩:=rule_store HBE.o HKX.o K8.o HZ.o (by rw [←Q0.o];exact QO.o) hfr HLT.o;have H1:=gi hR;have H2:=gi hok;have H3:=gi hke;have H4:=gi hfr2;have KS:=gi (set8_keeps w8 (B + 1) (H J op9) (M sa9 set9.length sc9) (M ka9 kids9.length kc9) (H J mn9) (H J mx9) (H J mode9) (H J n9) (F neg9));have hpl:pb≠B + 1:=by have:=HPB.o;have:=HBE.o;omega
   have hbl:b≠B + 1:=by have:=HBB.o;have:=HBE.o;omega
   clear hfr hR hok hke hfr2;refine j6 12 fun K hK=> ?_;go_simp;refine hK.out _ _ (⟨KS.o.cell (E8.o.c v2) (by simp),KS.o.cell (E8.o.c t0) (by simp;exact hpl),KS.o.cell (E8.o.c g0) (by simp;exact hbl),KS.o.cell (E8.o.c g1) (by simp;exact hbl),KS.o.cell (E8.o.c g2) (by simp;exact hbl),KS.o.cell (E8.o.c g3) (by simp;exact hbl),KS.o.cell (E8.o.c g4) (by simp;exact hbl),KS.o.cell (E8.o.c g5) (by simp;exact hbl),KS.o.cell (E8.o.c g6) (by simp;exact hbl),KS.o.cell (E8.o.c g7) (by simp;exact hbl)⟩) (fun hHeld=> ?_);clear hK K;try go_frame
   refine tk 13 ?_;refine wd ?_;clear v2 t0 g0 g1 g2 g3 g4 g5 g6 g7 z0 z1 z2 z3 z4 z5 z6 z7 zf hHeld hpl hbl;go_wp2;refine rt H1.o ?_;exact ⟨.node op9 sa9 sc9 set9 ka9 kc9 kids9 mn9 mx9 mode9 n9 neg9,by rw [HER.o];rfl,by rw [←Q0.o,QT.o],H2.o,H3.o,H4.o⟩
  ·have HR:=gi (show R=none by rw [hR0,if_neg hx]);have hl0:((r.length:Int) + 1==0)=false:=by simp;omega
   clear hR0 k1
   by_cases hxn:x < 0
   ·have hxb:decide (x < 0)=true:=by simpa using hxn
    clear hx;obtain ⟨c0,c1,c2,c3,c4,c5,c6,c7⟩:=HC.o.cells0;go_enter Tryz.func10,Tryz.ntmps10
    go_upto_region 1 with fail
    rw [←HXE.o,←HBE.o];go_wp2_with fail
    refine rg (S:=fun w'=> w'.cell? ⟨B,2,none⟩=some (M ka kids.length kc)∧w'.cell? ⟨pb,po,none⟩=some (H J x)) (fun _ k=> ⟨k.c c2,k.c q0⟩) fun kz hHeld=> ?_;refine tk 0 ?_;refine tk 1 ?_;refine tk 2 ?_;refine tk 3 ?_;refine tk 4 ?_;refine tf 5 ?_;refine tf 6 ?_;refine tf 7 ?_;refine tf 8 ?_;refine tf 9 ?_;refine tf 10 ?_;refine tf 11 ?_;refine tk 12 ?_;refine wd ?_;obtain ⟨W,hWe⟩:∃ W,W=X.drew:=⟨_,rfl⟩;rw [←hWe];have K3:=gi (show Keeps [] X W by rw [hWe];exact (Keeps.refl [] X).drew);clear hHeld hWe c0 c1 c2 c3 c4 c5 c6 c7 q0;obtain ⟨z0,z1,z2,z3,z4,z5,z6,z7,zf,HR2,HK2⟩:=nn HBE.o HKX.o K3.o HZ.o;go_wp2;refine rt HR2.o ?_;exact AtPost.of_none HR.o rfl HK2.o
   ·have hxg:(kids.length:Int)≤x:=by omega
    have hxb:decide (x < 0)=false:=by simpa using hxn
    have hxc:decide ((kids.length:Int)≤x)=true:=by simpa using hxg
    clear hx;obtain ⟨c0,c1,c2,c3,c4,c5,c6,c7⟩:=HC.o.cells0;go_enter Tryz.func10,Tryz.ntmps10
    go_upto_region 1 with fail
    rw [←HXE.o,←HBE.o];go_wp2_with fail
    refine rg (S:=fun w'=> w'.cell? ⟨B,2,none⟩=some (M ka kids.length kc)∧w'.cell? ⟨pb,po,none⟩=some (H J x)) (fun _ k=> ⟨k.c c2,k.c q0⟩) fun kz hHeld=> ?_;refine tk 0 ?_;refine tk 1 ?_;refine tk 2 ?_;refine tk 3 ?_;refine tk 4 ?_;refine tk 5 ?_;refine tk 6 ?_;refine tk 7 ?_;refine tk 8 ?_;refine tk 9 ?_;refine tk 10 ?_;refine tk 11 ?_;refine tk 12 ?_;refine wd ?_;obtain ⟨W,hWe⟩:∃ W,W=X.drew:=⟨_,rfl⟩;rw [←hWe];have K3:=gi (show Keeps [] X W by rw [hWe];exact (Keeps.refl [] X).drew);clear hHeld hWe c0 c1 c2 c3 c4 c5 c6 c7 q0;obtain ⟨z0,z1,z2,z3,z4,z5,z6,z7,zf,HR2,HK2⟩:=nn HBE.o HKX.o K3.o HZ.o;go_wp2;refine rt HR2.o ?_;exact AtPost.of_none HR.o rfl HK2.o
def putT:Tree→List Int→Tree→Option Tree
 | _,[],p=> some p
 | t,x::r,p=> if 0≤x∧x < t.kids.length then (putT (t.kids.getD x.toNat .nil) r p).map fun k=> setKids t (t.kids.take x.toNat ++ (k::t.kids.drop (x.toNat + 1))) else none
theorem putT_bulk {p:Tree}:∀ (path:List Int) {t q:Tree},putT t path p=some q→q.bulk≤t.bulk + p.bulk:=by
 intro path
 induction path with
 | nil=> intro t q h;simp only [putT,Option.some.injEq] at h;subst h;omega
 | cons x r ih=>
  intro t q h;rw [putT] at h
  split at h
  ·rename_i hx
   obtain ⟨k,hk,rfl⟩:=Option.map_eq_some_iff.1 h;have hi:x.toNat < t.kids.length:=by omega
   rw [List.getD_eq_getElem?_getD,List.getElem?_eq_getElem hi,Option.getD_some] at hk
   have:=ih hk
   cases t with
   | node op set kids mn mx mode n neg=>
    simp only [Tree.kids] at hi this ⊢;have e1:=Tree.bulks_take_drop kids x.toNat;rw [List.drop_eq_getElem_cons hi] at e1;simp only [setKids,Tree.bulk,Tree.bulks_append,Tree.bulks] at e1 ⊢;omega
  ·cases h
mutual
def pathsT:Tree→List (List Int)
 | .node _ _ kids _ _ _ _ _=> []::pathsTs 0 kids
def pathsTs:Int→List Tree→List (List Int)
 | _,[]=> []
 | i,k::ks=> (pathsT k).map (fun p=> i::p) ++ pathsTs (i + 1) ks
end
theorem pathsTs_take:∀ (l:List Tree) (i:Int) (k:Nat) (h:k < l.length),pathsTs i (l.take (k + 1))=pathsTs i (l.take k) ++ (pathsT l[k]).map fun p=> (i + k)::p:=by
 intro l
 induction l with
 | nil=> intro i k h;simp at h
 | cons x r ih=>
  intro i k h
  cases k with
  | zero=> simp [pathsTs]
  | succ n=>
   have:=ih (i + 1) n (by simpa using h)
   simp only [List.take_succ_cons,pathsTs,this,List.getElem_cons_succ,List.append_assoc];have e:i + 1 + (n:Int)=i + ((n + 1:Nat):Int):=by omega
   rw [e]
theorem paths_length:∀ t:Tree,(pathsT t).length=sizeT t∧∀ p∈pathsT t,p.length≤t.bulk:=by
 intro t
 induction t using Tree.induct with
 | h op set kids mn mx mode n neg ih=>
  have hs:∀ (l:List Tree) (i:Int),(∀ k∈l,(pathsT k).length=sizeT k∧∀ p∈pathsT k,p.length≤k.bulk)→(pathsTs i l).length=sizeTs l∧∀ p∈pathsTs i l,p.length≤Tree.bulks l + 1:=by
   intro l
   induction l with
   | nil=> intro i _;exact ⟨rfl,by simp [pathsTs]⟩
   | cons x r ih2=>
    intro i h;obtain ⟨h1,h2⟩:=h x (by simp);obtain ⟨h3,h4⟩:=ih2 (i + 1) (fun k hk=> h k (by simp [hk]));refine ⟨by simp only [pathsTs,List.length_append,List.length_map,h1,h3,sizeTs],fun p hp=> ?_⟩;simp only [pathsTs,List.mem_append,List.mem_map] at hp;simp only [Tree.bulks]
    rcases hp with ⟨q,hq,rfl⟩ | hp
    ·have:=h2 q hq;simp only [List.length_cons];omega
    ·have:=h4 p hp;omega
  obtain ⟨h1,h2⟩:=hs kids 0 ih;refine ⟨by simp only [pathsT,List.length_cons,h1,sizeT];omega,fun p hp=> ?_⟩;simp only [pathsT,List.mem_cons] at hp;simp only [Tree.bulk]
  rcases hp with rfl | hp
  ·simp
  ·have:=h2 p hp;omega
end Go.Proofs.YtjnlkjlbejelgaaGreat
