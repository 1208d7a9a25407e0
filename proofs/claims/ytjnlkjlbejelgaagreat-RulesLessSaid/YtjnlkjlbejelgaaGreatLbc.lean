/- Part 29 of the proof. No condition: every lemma says its own. -/
import Derived.Test.YtjnlkjlbejelgaaGreatLbb
import Derived.Test.YtjnlkjlbejelgaaGreatLat
import Derived.Test.YtjnlkjlbejelgaaGreatLaw
import Derived.Test.YtjnlkjlbejelgaaGreatLav
namespace Go.Proofs.YtjnlkjlbejelgaaGreat
open Go.RowKit
open Go.Value renaming int→H,slice→M,bool→F
open Go.IntKind renaming i64→J
set_option maxRecDepth 100000
set_option maxHeartbeats 16000000
theorem tree_five (w:World) (g:Nat) (la:Option Addr) (lc:Nat) (zs:List Int) (uses lf:Int) (h:MakerAt w g la lc zs uses lf) (h1:-1000≤lf) (h2:lf≤1000):
  Calls Tryz.prog 73 #[.pointer (some ⟨g,0,none⟩),H J 5] w (GenPost w g la lc zs uses (Left lf 5) 2551):=by
 have t0:TreeGen 0 10:=tree_step (d:=0) (bd:=3) (fun d' h=> by omega) (by omega) (by omega);have t1:TreeGen 1 31:=tree_step (d:=1) (bd:=10) (fun d' h=> (show d'=0 by omega) ▸ t0) (by omega) (by omega);have t2:TreeGen 2 94:=tree_step (d:=2) (bd:=31) (fun d' h=> (show d'=1 by omega) ▸ t1) (by omega) (by omega);have t3:TreeGen 3 283:=tree_step (d:=3) (bd:=94) (fun d' h=> (show d'=2 by omega) ▸ t2) (by omega) (by omega);have t4:TreeGen 4 850:=tree_step (d:=4) (bd:=283) (fun d' h=> (show d'=3 by omega) ▸ t3) (by omega) (by omega);have t5:TreeGen 5 2551:=tree_step (d:=5) (bd:=850) (fun d' h=> (show d'=4 by omega) ▸ t4) (by omega) (by omega);exact t5 w g la lc zs uses lf h h1 h2
theorem drewn_heap {w:World} {b:Nat} {o:Obj} (h:w.heap[b]? =some o):w.drew.heap[b]? =some o:=h
theorem sizePat:(Tryz.prog.info? 28).map (·.size)=some 10:=by kernel_rfl
def patVal (m:MRe) (cp:Int) (ru:Bool):Value:=.agg (m.row ++ [H J cp,Value.bool ru]).toArray
def PatPost2 (w:World) (e:Ending) (w':World):Prop:=
 ∃ (m:MRe) (cp:Int),e=.returned (patVal m cp false)∧m.OK w'∧Keeps [] w w'∧Fresh w.heap.size m.blocks∧m.tree.WF∧m.tree.bulk≤2551∧0≤cp∧cp≤4∧sizeT m.tree≤22∧depthT m.tree≤6
theorem left_five {most lf':Int} {t:Tree} (h:Left most 5 lf' t) (hm:most≤14):sizeT t≤22∧depthT t≤6:=by
 obtain ⟨p1,p2,p3⟩:=h;omega
@[reducible] def set10 (w:World) (g:Nat) (v0 v1 v2 v3 v4 v5 v6 v7 v8 v9:Value):World:=((((((((((w.setCell ⟨g,0,none⟩ v0).setCell ⟨g,1,none⟩ v1).setCell ⟨g,2,none⟩ v2).setCell ⟨g,3,none⟩ v3).setCell ⟨g,4,none⟩ v4).setCell ⟨g,5,none⟩ v5).setCell ⟨g,6,none⟩ v6).setCell ⟨g,7,none⟩ v7).setCell ⟨g,8,none⟩ v8).setCell ⟨g,9,none⟩ v9)
theorem set10_heap {w:World} {g T:Nat} {u0 u1 u2 u3 u4 u5 u6 u7 u8 u9:Value} (h:w.heap[g]? =some (.cells #[u0,u1,u2,u3,u4,u5,u6,u7,u8,u9] T (0,0))) (v0 v1 v2 v3 v4 v5 v6 v7 v8 v9:Value):(set10 w g v0 v1 v2 v3 v4 v5 v6 v7 v8 v9).heap[g]? =some (.cells #[v0,v1,v2,v3,v4,v5,v6,v7,v8,v9] T (0,0)):=by
 have h0:(w.setCell ⟨g,0,none⟩ v0).heap[g]? =some (.cells #[v0,u1,u2,u3,u4,u5,u6,u7,u8,u9] T (0,0)):=heap_setCell_same _ g 0 _ T v0 h;have h1:((w.setCell ⟨g,0,none⟩ v0).setCell ⟨g,1,none⟩ v1).heap[g]? =some (.cells #[v0,v1,u2,u3,u4,u5,u6,u7,u8,u9] T (0,0)):=heap_setCell_same _ g 1 _ T v1 h0;have h2:(((w.setCell ⟨g,0,none⟩ v0).setCell ⟨g,1,none⟩ v1).setCell ⟨g,2,none⟩ v2).heap[g]? =some (.cells #[v0,v1,v2,u3,u4,u5,u6,u7,u8,u9] T (0,0)):=heap_setCell_same _ g 2 _ T v2 h1;have h3:((((w.setCell ⟨g,0,none⟩ v0).setCell ⟨g,1,none⟩ v1).setCell ⟨g,2,none⟩ v2).setCell ⟨g,3,none⟩ v3).heap[g]? =some (.cells #[v0,v1,v2,v3,u4,u5,u6,u7,u8,u9] T (0,0)):=heap_setCell_same _ g 3 _ T v3 h2;have h4:(((((w.setCell ⟨g,0,none⟩ v0).setCell ⟨g,1,none⟩ v1).setCell ⟨g,2,none⟩ v2).setCell ⟨g,3,none⟩ v3).setCell ⟨g,4,none⟩ v4).heap[g]? =some (.cells #[v0,v1,v2,v3,v4,u5,u6,u7,u8,u9] T (0,0)):=heap_setCell_same _ g 4 _ T v4 h3;have h5:((((((w.setCell ⟨g,0,none⟩ v0).setCell ⟨g,1,none⟩ v1).setCell ⟨g,2,none⟩ v2).setCell ⟨g,3,none⟩ v3).setCell ⟨g,4,none⟩ v4).setCell ⟨g,5,none⟩ v5).heap[g]? =some (.cells #[v0,v1,v2,v3,v4,v5,u6,u7,u8,u9] T (0,0)):=heap_setCell_same _ g 5 _ T v5 h4;have h6:(((((((w.setCell ⟨g,0,none⟩ v0).setCell ⟨g,1,none⟩ v1).setCell ⟨g,2,none⟩ v2).setCell ⟨g,3,none⟩ v3).setCell ⟨g,4,none⟩ v4).setCell ⟨g,5,none⟩ v5).setCell ⟨g,6,none⟩ v6).heap[g]? =some (.cells #[v0,v1,v2,v3,v4,v5,v6,u7,u8,u9] T (0,0)):=heap_setCell_same _ g 6 _ T v6 h5;have h7:((((((((w.setCell ⟨g,0,none⟩ v0).setCell ⟨g,1,none⟩ v1).setCell ⟨g,2,none⟩ v2).setCell ⟨g,3,none⟩ v3).setCell ⟨g,4,none⟩ v4).setCell ⟨g,5,none⟩ v5).setCell ⟨g,6,none⟩ v6).setCell ⟨g,7,none⟩ v7).heap[g]? =some (.cells #[v0,v1,v2,v3,v4,v5,v6,v7,u8,u9] T (0,0)):=heap_setCell_same _ g 7 _ T v7 h6;have h8:(((((((((w.setCell ⟨g,0,none⟩ v0).setCell ⟨g,1,none⟩ v1).setCell ⟨g,2,none⟩ v2).setCell ⟨g,3,none⟩ v3).setCell ⟨g,4,none⟩ v4).setCell ⟨g,5,none⟩ v5).setCell ⟨g,6,none⟩ v6).setCell ⟨g,7,none⟩ v7).setCell ⟨g,8,none⟩ v8).heap[g]? =some (.cells #[v0,v1,v2,v3,v4,v5,v6,v7,v8,u9] T (0,0)):=heap_setCell_same _ g 8 _ T v8 h7;have h9:((((((((((w.setCell ⟨g,0,none⟩ v0).setCell ⟨g,1,none⟩ v1).setCell ⟨g,2,none⟩ v2).setCell ⟨g,3,none⟩ v3).setCell ⟨g,4,none⟩ v4).setCell ⟨g,5,none⟩ v5).setCell ⟨g,6,none⟩ v6).setCell ⟨g,7,none⟩ v7).setCell ⟨g,8,none⟩ v8).setCell ⟨g,9,none⟩ v9).heap[g]? =some (.cells #[v0,v1,v2,v3,v4,v5,v6,v7,v8,v9] T (0,0)):=heap_setCell_same _ g 9 _ T v9 h8;exact h9
theorem set10_keeps (w:World) (g:Nat) (v0 v1 v2 v3 v4 v5 v6 v7 v8 v9:Value):Keeps [g] w (set10 w g v0 v1 v2 v3 v4 v5 v6 v7 v8 v9):=
 (((((((((((Keeps.refl [g] w).setCell (.inl (by simp)) _).setCell (.inl (by simp)) _).setCell (.inl (by simp)) _).setCell (.inl (by simp)) _).setCell (.inl (by simp)) _).setCell (.inl (by simp)) _).setCell (.inl (by simp)) _).setCell (.inl (by simp)) _).setCell (.inl (by simp)) _).setCell (.inl (by simp)) _)
theorem row10_cells {w:World} {g T:Nat} {u0 u1 u2 u3 u4 u5 u6 u7 u8 u9:Value} (h:w.heap[g]? =some (.cells #[u0,u1,u2,u3,u4,u5,u6,u7,u8,u9] T (0,0))):
  w.cell? ⟨g,0,none⟩=some u0∧w.cell? ⟨g,1,none⟩=some u1∧w.cell? ⟨g,2,none⟩=some u2∧w.cell? ⟨g,3,none⟩=some u3∧w.cell? ⟨g,4,none⟩=some u4∧w.cell? ⟨g,5,none⟩=some u5∧w.cell? ⟨g,6,none⟩=some u6∧w.cell? ⟨g,7,none⟩=some u7∧w.cell? ⟨g,8,none⟩=some u8∧w.cell? ⟨g,9,none⟩=some u9∧(∀ o,w.frozen? ⟨g,o,none⟩=false):=by
 refine ⟨?_,?_,?_,?_,?_,?_,?_,?_,?_,?_,fun i=> ?_⟩ <;> simp [World.cell?,World.frozen?,h]
theorem pattern_size (la:Option Addr) (lc:Nat) (zs:List Int) (uses most:Int) (w:World) (hin:IntsIn w la zs) (hl:zs.length≤9223372036854775807) (hb:∀ x∈zs,I64 x) (hm0:-1000≤most) (hm1:most≤14):
  Calls Tryz.prog 38 #[M la zs.length lc,H J uses,H J most] w (PatPost2 w):=by
 have HMO:=gi (And.intro hm0 hm1);clear hm0 hm1;go_enter Tryz.func38,Tryz.ntmps38
 obtain ⟨B,hBe⟩:∃ B,B=w.heap.size:=⟨_,rfl⟩;obtain ⟨X,hXe⟩:∃ X:World,X=(w.alloc (.cells #[H J 0,M none 0 0,M none 0 0,H J 0,H J 0,H J 0,H J 0,F false,H J 0,F false] 28)).alloc (.cells #[M la zs.length lc,H J 0,H J uses,H J most,H J 0] 99):=⟨_,rfl⟩;have hkX:Keeps [] w X:=by rw [hXe];exact Keeps.a2 _ _ _
 have hz:X.heap[B]? =some (.cells #[H J 0,M none 0 0,M none 0 0,H J 0,H J 0,H J 0,H J 0,F false,H J 0,F false] 28 (0,0)):=by rw [hXe,hBe];exact (Keeps.a1 _ _).heap (heap_alloc_new w _) (by simp)
 have hg:X.heap[B + 1]? =some (.cells #[M la zs.length lc,H J 0,H J uses,H J most,H J 0] 99 (0,0)):=by rw [hXe,hBe];exact heap_alloc2_new w _ _
 have hm:MakerAt X (B + 1) la lc zs uses most:=⟨hin.keepS hkX (fun _ _=> by simp),hl,hb,fun h0 a ha=> ⟨Nat.lt_of_lt_of_le (hin.lt h0 a ha) hkX.size,by have:=hin.lt h0 a ha;omega⟩,0,0,by omega,by omega,hg⟩;have HM:=gi hm;have HKX:=gi hkX;have HZ:=gi hz;have HXE:=gi hXe;have HBE:=gi hBe;clear hin hb hkX hz hg hm hXe hBe hl;go_wp2_with fail
 rw [←HXE.o,←HBE.o];refine Calls.mono (tree_five X (B + 1) la lc zs uses most HM.o HMO.o.1 (by have:=HMO.o.2;omega)) ?_;rintro e w2 ⟨m,lf1,rfl,hmo,hmm,hmk,hmf,hmw,hmb,hmp⟩;have HP:=gi (left_five hmp HMO.o.2);obtain ⟨at1,cp1,h01,h11,hr1⟩:=hmm.row;obtain ⟨c0,c1,c2,c3,c4,cf⟩:=row5_cells hr1;have HK2:=gi hmk;have HO:=gi hmo;have HF:=gi hmf;have HW:=gi hmw;have HBD:=gi hmb;obtain ⟨m0,hm0⟩:∃ m0,m0=m:=⟨_,rfl⟩;rw [←hm0] at HO HF HW HBD HP;have HM0:=gi hm0;obtain ⟨op2,sa2,sc2,set2,ka2,kc2,kids2,mn2,mx2,mode2,n2,neg2⟩:=m;simp only [MRe.val];clear hmo hmm hmk hmf hmw hmb hm0 hr1 hmp;go_upto_region 3 with fail
 obtain ⟨Y,hY⟩:∃ Y,Y=w2.alloc (.cells #[H J op2,M sa2 set2.length sc2,M ka2 kids2.length kc2,H J mn2,H J mx2,H J mode2,H J n2,F neg2] 26):=⟨_,rfl⟩;have hkY:Keeps [] w2 Y:=by rw [hY];exact Keeps.a1 _ _
 have hL:Y.heap[w2.heap.size]? =some (.cells #[H J op2,M sa2 set2.length sc2,M ka2 kids2.length kc2,H J mn2,H J mx2,H J mode2,H J n2,F neg2] 26 (0,0)):=by rw [hY];exact heap_alloc_new w2 _
 rw [←hY];obtain ⟨y0,y1,y2,y3,y4,y5,y6,y7⟩:=row_cells hL;have e4:=hkY.c c4;have HKY:=gi (HK2.o.trans (hkY.mono (S':=[B + 1]) (by simp)));have HOY:=gi (HO.o.keep hkY);have HLB:=gi (show w2.heap.size≠B by have:=HK2.o.size;have:=lt_of_block HZ.o;omega);have HZY:=gi (HKY.o.h HZ.o);have HCP:=gi (And.intro h01 h11);clear hY hkY hL c0 c1 c2 c3 c4 cf h01 h11;refine rg (S:=fun w'=> w'.cell? ⟨B + 1,4,none⟩=some (H J cp1)∧w'.cell? ⟨w2.heap.size,0,none⟩=some (H J op2)∧w'.cell? ⟨w2.heap.size,1,none⟩=some (M sa2 set2.length sc2)∧w'.cell? ⟨w2.heap.size,2,none⟩=some (M ka2 kids2.length kc2)∧w'.cell? ⟨w2.heap.size,3,none⟩=some (H J mn2)∧w'.cell? ⟨w2.heap.size,4,none⟩=some (H J mx2)∧w'.cell? ⟨w2.heap.size,5,none⟩=some (H J mode2)∧w'.cell? ⟨w2.heap.size,6,none⟩=some (H J n2)∧w'.cell? ⟨w2.heap.size,7,none⟩=some (F neg2)) (fun _ k=> ⟨k.c e4,k.c y0,k.c y1,k.c y2,k.c y3,k.c y4,k.c y5,k.c y6,k.c y7⟩) fun kz hHeld=> ?_;refine tk 0 ?_;refine tk 1 ?_;refine tk 2 ?_;refine tk 3 ?_;refine tk 4 ?_;refine tk 5 ?_;obtain ⟨z0,z1,z2,z3,z4,z5,z6,z7,z8,z9,zf⟩:=row10_cells HZY.o;refine j6 6 fun K hK=> ?_;go_simp;have kS:=set10_keeps Y B (H J op2) (M sa2 set2.length sc2) (M ka2 kids2.length kc2) (H J mn2) (H J mx2) (H J mode2) (H J n2) (F neg2) (H J cp1) (F false);have KS:=gi kS;have H1:=gi (drewn_heap (set10_heap HZY.o (H J op2) (M sa2 set2.length sc2) (M ka2 kids2.length kc2) (H J mn2) (H J mx2) (H J mode2) (H J n2) (F neg2) (H J cp1) (F false)));have H2:=gi ((HOY.o.keepS kS fun b hb=> by have:=HF.o b hb;have:=lt_of_block HZ.o;simp;omega).keep (Keeps.refl [] _).drew);have H3:=gi (show Keeps [] w _ from ((HKX.o.after HKY.o (by intro q hq;simp at hq;subst hq;exact .inr (by have:=HBE.o;omega))).after kS (by intro q hq;simp at hq;subst hq;exact .inr (by have:=HBE.o;omega))).drew);clear kS;refine hK.out _ _ (⟨KS.o.drew.c e4,KS.o.drew.cell y0 (by simp;exact HLB.o),KS.o.drew.cell y1 (by simp;exact HLB.o),KS.o.drew.cell y2 (by simp;exact HLB.o),KS.o.drew.cell y3 (by simp;exact HLB.o),KS.o.drew.cell y4 (by simp;exact HLB.o),KS.o.drew.cell y5 (by simp;exact HLB.o),KS.o.drew.cell y6 (by simp;exact HLB.o),KS.o.drew.cell y7 (by simp;exact HLB.o)⟩) (fun hHeld=> ?_);clear hK K;try go_frame
 refine wd ?_;clear hHeld z0 z1 z2 z3 z4 z5 z6 z7 z8 z9 zf y0 y1 y2 y3 y4 y5 y6 y7 e4;go_wp2;refine bodyPost_ret (results_cell_row rfl _ _ B 28 #[H J op2,M sa2 set2.length sc2,M ka2 kids2.length kc2,H J mn2,H J mx2,H J mode2,H J n2,F neg2,H J cp1,F false] (0,0) _ rfl H1.o Tryz.underlying28 rfl sizePat) rfl ?_;exact ⟨m0,cp1,by rw [HM0.o];rfl,H2.o,H3.o,fun b hb=> Nat.le_trans HKX.o.size (HF.o b hb),HW.o,HBD.o,HCP.o.1,HCP.o.2,HP.o.1,HP.o.2⟩
def validE (t:Tree) (cp:Int) (ru:Bool):Int:=
 if 256 < sizeT t∨24 < depthT t then 4 else if cp < 0∨9 < cp∨wholeT cp (if ru then 1114111 else 255) t=false then 1 else 0
theorem rvalid_any (m:MRe) (cp:Int) (ru:Bool) (w:World) (k1:m.OK w) (hb:m.tree.bulk≤1000000):
  Calls Tryz.prog 43 #[patVal m cp ru] w fun e w'=> e=.returned (H J (validE m.tree cp ru))∧Keeps [] w w':=by
 obtain ⟨R,hR0⟩:∃ R,R=validE m.tree cp ru:=⟨_,rfl⟩;rw [←hR0];obtain ⟨sz,hsz⟩:∃ sz,sz=sizeT m.tree:=⟨_,rfl⟩;obtain ⟨dp,hdp⟩:∃ dp,dp=depthT m.tree:=⟨_,rfl⟩;have hsd:=size_depth m.tree;rw [←hsz,←hdp] at hsd;unfold validE at hR0;rw [←hsz,←hdp] at hR0;have HS:=fun W (h:Keeps [] w W)=> rsize_any m W (k1.keep h) hb;have HD:=fun W (h:Keeps [] w W)=> rdepth_any m W (k1.keep h) hb;have HW:=fun top (ht:top≤2000000) W (h:Keeps [] w W)=> rwhole_any cp top ht m W (k1.keep h);simp only [←hsz] at HS;simp only [←hdp] at HD;obtain ⟨op,sa,sc,set,ka,kc,kids,mn,mx,mode,n,neg⟩:=m;simp only [MRe.val] at HS HD HW;have HS:=gi HS;have HD:=gi HD;have HR0:=gi hR0;obtain ⟨B,hBe⟩:∃ B,B=w.heap.size:=⟨_,rfl⟩;obtain ⟨Y,hYe⟩:∃ Y,Y=w.alloc (.cells #[H J op,M sa set.length sc,M ka kids.length kc,H J mn,H J mx,H J mode,H J n,F neg,H J cp,F ru] 28):=⟨_,rfl⟩;have hkY:Keeps [] w Y:=by rw [hYe];exact Keeps.a1 _ _
 obtain ⟨c0,c1,c2,c3,c4,c5,c6,c7,c8,c9,cf⟩:=row10_cells (show Y.heap[B]? =some (.cells #[H J op,M sa set.length sc,M ka kids.length kc,H J mn,H J mx,H J mode,H J n,F neg,H J cp,F ru] 28 (0,0)) by rw [hYe,hBe];exact heap_alloc_new w _);have HYE:=gi hYe;have HBE:=gi hBe;have KY:=gi hkY;have hs1:sz≤1000000:=by omega
 have hs2:dp≤1000000:=by omega
 have HWW:=gi HW;clear hYe hBe hkY hR0 k1 hb hsd hsz hdp HW
 show Calls Tryz.prog 43 #[.agg #[H J op,M sa set.length sc,M ka kids.length kc,H J mn,H J mx,H J mode,H J n,F neg,H J cp,F ru]] w _
 go_enter Tryz.func43,Tryz.ntmps43
 go_upto_region 1 with fail
 rw [←HYE.o,←HBE.o];go_wp2_with fail
 refine Calls.mono (HS.o _ KY.o) ?_;rintro e w2 ⟨rfl,hk2⟩;have K2:=gi (KY.o.trans hk2);have Y8:=gi (hk2.c c8);have Y9:=gi (hk2.c c9);obtain ⟨d0,d1,d2,d3,d4,d5,d6,d7⟩:=hk2.c8 c0 c1 c2 c3 c4 c5 c6 c7;clear hk2 c0 c1 c2 c3 c4 c5 c6 c7 c8 c9 cf
 by_cases hg1:256 < sz
 ·have HR:=gi (show R=4 by rw [HR0.o,if_pos (.inl hg1)]);have hgi:(256:Int) < (sz:Int):=by omega
  go_wp2;go_ret;exact ⟨by rw [HR.o];rfl,K2.o⟩
 ·have hgi:¬ (256:Int) < (sz:Int):=by omega
  go_wp2_with fail
  refine Calls.mono (HD.o _ K2.o) ?_;rintro e w3 ⟨rfl,hk3⟩;have K3:=gi (K2.o.trans hk3);have e8:=hk3.c Y8.o;have e9:=hk3.c Y9.o;obtain ⟨e0,e1,e2,e3,e4,e5,e6,e7⟩:=hk3.c8 d0 d1 d2 d3 d4 d5 d6 d7;clear hk3 d0 d1 d2 d3 d4 d5 d6 d7
  by_cases hg2:24 < dp
  ·have HR:=gi (show R=4 by rw [HR0.o,if_pos (.inr hg2)]);have hg2i:(24:Int) < (dp:Int):=by omega
   go_wp2;go_ret;exact ⟨by rw [HR.o];rfl,K3.o⟩
  ·have hg2i:¬ (24:Int) < (dp:Int):=by omega
   cases ru with
   | true=>
    have HR1:=gi (show R=if cp < 0∨9 < cp∨wholeT cp 1114111 (MRe.tree (.node op sa sc set ka kc kids mn mx mode n neg))=false then 1 else 0 by rw [HR0.o,if_neg (by omega)];rfl);have HWC:=gi (HWW.o 1114111 (by omega))
    by_cases hc1:cp < 0
    ·have HR:=gi (show R=1 by rw [HR1.o,if_pos (.inl hc1)]);go_wp2;go_ret;exact ⟨by rw [HR.o];rfl,K3.o⟩
    ·by_cases hc2:9 < cp
     ·have HR:=gi (show R=1 by rw [HR1.o,if_pos (.inr (.inl hc2))]);go_wp2;go_ret;exact ⟨by rw [HR.o];rfl,K3.o⟩
     ·obtain ⟨wh,hwh⟩:∃ wh,wh=wholeT cp 1114111 (MRe.tree (.node op sa sc set ka kc kids mn mx mode n neg)):=⟨_,rfl⟩;rw [←hwh] at HWC HR1;clear hwh;go_wp2_with fail
      refine Calls.mono (HWC.o _ K3.o) ?_;rintro e w4 ⟨rfl,hk4⟩;have K4:=gi (K3.o.trans hk4);clear hk4 e0 e1 e2 e3 e4 e5 e6 e7 e8 e9
      cases wh with
      | false=>
       have HR:=gi (show R=1 by rw [HR1.o,if_pos (.inr (.inr rfl))]);go_wp2;go_ret;exact ⟨by rw [HR.o];rfl,K4.o⟩
      | true=>
       have HR:=gi (show R=0 by rw [HR1.o,if_neg (by intro h;rcases h with h | h | h;omega;omega;cases h)]);go_wp2;go_ret;exact ⟨by rw [HR.o];rfl,K4.o⟩
   | false=>
    have HR1:=gi (show R=if cp < 0∨9 < cp∨wholeT cp 255 (MRe.tree (.node op sa sc set ka kc kids mn mx mode n neg))=false then 1 else 0 by rw [HR0.o,if_neg (by omega)];rfl);have HWC:=gi (HWW.o 255 (by omega))
    by_cases hc1:cp < 0
    ·have HR:=gi (show R=1 by rw [HR1.o,if_pos (.inl hc1)]);go_wp2;go_ret;exact ⟨by rw [HR.o];rfl,K3.o⟩
    ·by_cases hc2:9 < cp
     ·have HR:=gi (show R=1 by rw [HR1.o,if_pos (.inr (.inl hc2))]);go_wp2;go_ret;exact ⟨by rw [HR.o];rfl,K3.o⟩
     ·obtain ⟨wh,hwh⟩:∃ wh,wh=wholeT cp 255 (MRe.tree (.node op sa sc set ka kc kids mn mx mode n neg)):=⟨_,rfl⟩;rw [←hwh] at HWC HR1;clear hwh;go_wp2_with fail
      refine Calls.mono (HWC.o _ K3.o) ?_;rintro e w4 ⟨rfl,hk4⟩;have K4:=gi (K3.o.trans hk4);clear hk4 e0 e1 e2 e3 e4 e5 e6 e7 e8 e9
      cases wh with
      | false=>
       have HR:=gi (show R=1 by rw [HR1.o,if_pos (.inr (.inr rfl))]);go_wp2;go_ret;exact ⟨by rw [HR.o];rfl,K4.o⟩
      | true=>
       have HR:=gi (show R=0 by rw [HR1.o,if_neg (by intro h;rcases h with h | h | h;omega;omega;cases h)]);go_wp2;go_ret;exact ⟨by rw [HR.o];rfl,K4.o⟩
theorem topOf_same (ru:Bool) (w:World):Calls Tryz.prog 99 #[F ru] w fun e w'=> e=.returned (H J (if ru then 1114111 else 255))∧w=w':=by
 cases ru with
 | true=> go_enter Tryz.func99,Tryz.ntmps99;go_wp2;go_ret;exact ⟨rfl,rfl⟩
 | false=> go_enter Tryz.func99,Tryz.ntmps99;go_wp2;go_ret;exact ⟨rfl,rfl⟩
theorem At8.of_row10 {w:World} {b:Nat} {m:MRe} {u v:Value} {T:Nat} {fz:Nat × Nat} (h:w.heap[b]? =some (.cells (m.row ++ [u,v]).toArray T fz)):At8 w b 0 m:=by
 intro j hj;simp [World.cell?,h,List.getElem?_append_left hj]
theorem avalid_any (m:MRe) (cp:Int) (ru:Bool) (w:World) (k1:m.OK w):
  Calls Tryz.prog 59 #[patVal m cp ru] w fun e w'=> e=.returned (H J (validE m.tree cp ru))∧Keeps [] w w':=by
 obtain ⟨B,hBe⟩:∃ B,B=w.heap.size:=⟨_,rfl⟩;obtain ⟨top,htop⟩:∃ t:Int,t=if ru then 1114111 else 255:=⟨_,rfl⟩;have ht:top≤2000000:=by rw [htop];split <;> omega
 have HT:=gi (fun (W:World)=> topOf_same ru W);rw [←htop] at HT;obtain ⟨R,hR0⟩:∃ R,R=validE m.tree cp ru:=⟨_,rfl⟩;rw [←hR0];unfold validE at hR0;rw [←htop] at hR0;obtain ⟨g0,hg0⟩:∃ g,g=(decide (0≤cp) && decide (cp≤9)):=⟨_,rfl⟩;have hlt:=k1.block_lt;have HW:=gi (fun (W:World) (h1:At8 W B 0 m) (h2:m.OK W) (h3:VEnv W (B + 1) (B + 1 + 1) B (B + 1 + 1 + 1) (B + 1 + 1 + 1 + 1) cp top) (h4:NumAt W (B + 1) 0) (h5:BoolAt W (B + 1 + 1) g0)=> walkV_any (B + 1) (B + 1 + 1) B (B + 1 + 1 + 1) (B + 1 + 1 + 1 + 1) cp top ht m B 0 1 0 g0 W h1 h2 h3 h4 h5 (by omega) (by omega) (by omega) (by omega) (by omega) (fun h=> by have:=hlt _ h;omega) (fun h=> by have:=hlt _ h;omega));have hR1:∀ g':Bool,(g'=(g0 && wholeT cp top m.tree))→sizeT m.tree≤256→depthT m.tree≤24→R=if g' then 0 else 1:=by
  intro g' h1 h2 h3;rw [hR0,if_neg (by omega),h1,hg0]
  by_cases q1:0≤cp <;> by_cases q2:cp≤9 <;> cases hq:wholeT cp top m.tree <;> simp [q1,q2,Int.not_lt.mpr,Int.not_le.mp] <;> omega
 have hR2:256 < sizeT m.tree∨24 < depthT m.tree→R=4:=fun h=> by rw [hR0,if_pos h]
 have HR1:=gi hR1;have HR2:=gi hR2;have HK1:=gi k1;obtain ⟨Y,hYe⟩:∃ Y,Y=w.alloc (.cells (m.row ++ [H J cp,Value.bool ru]).toArray 28):=⟨_,rfl⟩;have hY:=heap_alloc_new w (.cells (m.row ++ [H J cp,Value.bool ru]).toArray 28);rw [←hYe,←hBe] at hY;have h8:At8 Y B 0 m:=At8.of_row10 hY;have hkY:Keeps [] w Y:=by rw [hYe];exact Keeps.a1 _ _
 have hsz:Y.heap.size=B + 1:=by rw [hYe,hBe];simp
 have HBE:=gi hBe;have HYE:=gi hYe;have H8:=gi h8;have KY:=gi hkY;have HSZ:=gi hsz;have hcs:=show g0=false∧¬ 0≤cp∨g0=false∧0≤cp∧¬ cp≤9∨g0=true∧0≤cp∧cp≤9 by rw [hg0];by_cases q1:0≤cp <;> by_cases q2:cp≤9 <;> simp [q1,q2]
 have HG0:=gi hg0;obtain ⟨op,sa,sc,set,ka,kc,kids,mn,mx,mode,n,neg⟩:=m;have HYL:=gi (show Y=w.alloc (.cells #[H J op,M sa set.length sc,M ka kids.length kc,H J mn,H J mx,H J mode,H J n,F neg,H J cp,F ru] 28) from HYE.o);obtain ⟨c0,c1,c2,c3,c4,c5,c6,c7,c8,c9,cf⟩:=row10_cells (show Y.heap[B]? =some (.cells #[H J op,M sa set.length sc,M ka kids.length kc,H J mn,H J mx,H J mode,H J n,F neg,H J cp,F ru] 28 (0,0)) from hY);have hmf:∀ (fn:Fn) (first cap:Array Value) (w:World),(Instr.makeFunc fn first cap).run Tryz.prog w=.ok (.func fn first cap) w:=fun _ _ _ _=> rfl;clear hYe h8 hkY hsz hBe hg0 hR1 hR2 hY k1 hlt hR0 ht htop c0 c1 c2 c3 c4 c5 c6 c7
 show Calls Tryz.prog 59 #[.agg #[H J op,M sa set.length sc,M ka kids.length kc,H J mn,H J mx,H J mode,H J n,F neg,H J cp,F ru]] w _
 go_enter Tryz.func59,Tryz.ntmps59
 go_upto_region 1 with fail
 rw [←HYL.o,←HBE.o];obtain ⟨Y1,hY1⟩:∃ W,W=Y.alloc (.cells #[H J 0] 3):=⟨_,rfl⟩;have HY1:=gi hY1;have KY1:=gi (show Keeps [] Y Y1 by rw [hY1];exact Keeps.a1 _ _);have ZY1:=gi (show Y1.heap.size=B + 1 + 1 by rw [hY1];simp [HSZ.o]);have AY1:=gi (show Y1.heap[B + 1]? =some (.cells #[H J 0] 3 (0,0)) by rw [hY1,←HSZ.o];exact heap_alloc_new Y _);clear hY1;have c8a:=KY1.o.c c8;have c9a:=KY1.o.c c9;clear c8 c9 cf;go_upto_region 2 with fail
 rw [←HY1.o,HSZ.o]
 go_cut [4] (fun s4 wx=> s4=.pointer (some ⟨B + 1 + 1,0,none⟩)∧wx=Y1.alloc (.cells #[F g0] 4))
 case first=>
  rcases hcs with ⟨rfl,h0⟩ | ⟨rfl,h0,h9⟩ | ⟨rfl,h0,h9⟩
  all_goals
   go_wp2;rw [ZY1.o];go_meet;exact ⟨rfl,rfl⟩
 obtain ⟨rfl,hw1⟩:=hcut;obtain ⟨Y2,hY2⟩:∃ W,W=Y1.alloc (.cells #[F g0] 4):=⟨_,rfl⟩;have HY2:=gi hY2;have KY2:=gi (show Keeps [] Y1 Y2 by rw [hY2];exact Keeps.a1 _ _);have ZY2:=gi (show Y2.heap.size=B + 1 + 1 + 1 by rw [hY2];simp [ZY1.o]);have AY2:=gi (show Y2.heap[B + 1 + 1]? =some (.cells #[F g0] 4 (0,0)) by rw [hY2,←ZY1.o];exact heap_alloc_new Y1 _);clear hY2;rw [←HY2.o] at hw1;rw [hw1];clear hw1;have c8b:=KY2.o.c c8a;have c9b:=KY2.o.c c9a;clear c8a c9a;go_wp2_with fail
 refine Calls.mono (HT.o _) ?_;rintro e w2 ⟨rfl,rfl⟩;go_upto_region 4 with fail
 obtain ⟨Y3,hY3⟩:∃ W,W=Y2.alloc (.cells #[H J top] 3):=⟨_,rfl⟩;have HY3:=gi hY3;have KY3:=gi (show Keeps [] Y2 Y3 by rw [hY3];exact Keeps.a1 _ _);have ZY3:=gi (show Y3.heap.size=B + 1 + 1 + 1 + 1 by rw [hY3];simp [ZY2.o]);have AY3:=gi (show Y3.heap[B + 1 + 1 + 1]? =some (.cells #[H J top] 3 (0,0)) by rw [hY3,←ZY2.o];exact heap_alloc_new Y2 _);clear hY3;rw [←HY3.o,ZY2.o];obtain ⟨Y4,hY4⟩:∃ W,W=Y3.alloc (.cells #[(.func (Fn.func 100) #[] #[.pointer (some ⟨B + 1,0,none⟩),.pointer (some ⟨B + 1 + 1,0,none⟩),.pointer (some ⟨B,0,none⟩),.pointer (some ⟨B + 1 + 1 + 1,0,none⟩),.pointer (some ⟨B + 1 + 1 + 1 + 1,0,none⟩)])] 107):=⟨_,rfl⟩;have HY4:=gi hY4;have KY4:=gi (show Keeps [] Y3 Y4 by rw [hY4];exact Keeps.a1 _ _);have ZY4:=gi (show Y4.heap.size=B + 1 + 1 + 1 + 1 + 1 by rw [hY4];simp [ZY3.o]);have AY4:=gi (show Y4.heap[B + 1 + 1 + 1 + 1]? =some (.cells #[(.func (Fn.func 100) #[] #[.pointer (some ⟨B + 1,0,none⟩),.pointer (some ⟨B + 1 + 1,0,none⟩),.pointer (some ⟨B,0,none⟩),.pointer (some ⟨B + 1 + 1 + 1,0,none⟩),.pointer (some ⟨B + 1 + 1 + 1 + 1,0,none⟩)])] 107 (0,0)) by rw [hY4,←ZY3.o];exact heap_alloc_new Y3 _);clear hY4;go_wp2_with fail
 rw [ZY3.o,←HY4.o];have K14:=gi (KY2.o.trans (KY3.o.trans KY4.o));have K04:=gi (KY1.o.trans K14.o);have KW4:=gi (KY.o.trans K04.o);refine Calls.mono (HW.o Y4 (H8.o.keep K04.o) (HK1.o.keep KW4.o) ⟨?_,?_,?_,by omega,by omega,by omega⟩ (K14.o.h AY1.o) ((KY3.o.trans KY4.o).h AY2.o)) ?_
 ·exact (KY3.o.trans KY4.o).c c8b
 ·exact KY4.o.cell (by simp [World.cell?,AY3.o]) (by simp)
 ·simp [World.cell?,AY4.o]
 rintro e w5 ⟨r,s5,g5,rfl,hk5,hn5,hb5,hr1,hr2⟩;have K5:=gi (KW4.o.after hk5 (by intro x hx;simp only [List.mem_cons,List.not_mem_nil,or_false] at hx;exact .inr (by have:=HBE.o;omega)));have g1:=hb5.cell
 cases r with
 | false=>
  have HR:=gi (HR2.o (by have:=hr2 rfl;omega));clear hk5 hn5 hb5 hr1 hr2;go_wp2;go_ret;exact ⟨by rw [HR.o];rfl,K5.o⟩
 | true=>
  obtain ⟨-,p2,p3,p4⟩:=hr1 rfl;have HR:=gi (HR1.o g5 p4 (by omega) (by omega));clear hk5 hn5 hb5 hr1 hr2 p2 p3 p4
  cases g5 with
  | true=>
   go_wp2;go_ret;exact ⟨by rw [HR.o];rfl,K5.o⟩
  | false=>
   go_wp2;go_ret;exact ⟨by rw [HR.o];rfl,K5.o⟩
def PatOut (w:World) (cp:Int) (ru:Bool) (v:Value) (o:Option Tree) (e:Ending) (w':World):Prop:=
 ∃ (m:MRe) (cp':Int) (ru':Bool),e=.returned (.tuple #[patVal m cp' ru',v])∧m.tree=o.getD .nil∧cp'=(if o.isSome then cp else 0)∧ru'=(o.isSome && ru)∧m.OK w'∧Keeps [] w w'∧∀ b∈m.blocks,w.heap.size≤b
theorem PatOut.of_none {w:World} {cp:Int} {ru:Bool} {v:Value} {o:Option Tree} {e:Ending} {w':World} (h:o=none) (he:e=.returned (.tuple #[patVal .nil 0 false,v])) (hk:Keeps [] w w'):PatOut w cp ru v o e w':=by
 subst h;exact ⟨MRe.nil,0,false,he,rfl,rfl,rfl,MRe.OK.nil _,hk,by intro b hb;simp [MRe.nil,MRe.blocks,MRe.blocksL,blockIf] at hb⟩
theorem PatOut.of_some {w:World} {cp:Int} {ru:Bool} {v:Value} {o:Option Tree} {e:Ending} {w':World} (r:MRe) (h:o=some r.tree) (he:e=.returned (.tuple #[patVal r cp ru,v])) (hr:r.OK w') (hk:Keeps [] w w') (hf:∀ b∈r.blocks,w.heap.size≤b):PatOut w cp ru v o e w':=by
 subst h;exact ⟨r,cp,ru,he,rfl,rfl,by simp,hr,hk,hf⟩
def putV (t:Tree) (cp:Int) (ru:Bool) (path:List Int) (p:Tree):Option Tree:=
 match putT t path p with
 | none=> none
 | some x=> if validE x cp ru=0 then some x else none
theorem rput2_any (m p:MRe) (cp:Int) (ru:Bool) (path:List Int) (pa:Option Addr) (pc:Nat) (w:World) (k1:m.OK w) (k2:p.OK w) (hin:IntsIn w pa path) (hl:path.length≤1000000) (hb:m.tree.bulk≤1000000) (hbp:p.tree.bulk≤1000000):
  Calls Tryz.prog 62 #[patVal m cp ru,M pa path.length pc,p.val] w (PatOut w cp ru (F (putV m.tree cp ru path p.tree).isSome) (putV m.tree cp ru path p.tree)):=by
 obtain ⟨B,hBe⟩:∃ B,B=w.heap.size:=⟨_,rfl⟩;obtain ⟨X,hXe⟩:∃ X,X=((w.alloc (.cells (m.row ++ [H J cp,Value.bool ru]).toArray 28)).alloc (.cells p.row.toArray 26)).alloc (.cells #[H J 0,M none 0 0,M none 0 0,H J 0,H J 0,H J 0,H J 0,F false,H J 0,F false] 28):=⟨_,rfl⟩;have hkX:Keeps [] w X:=by rw [hXe];exact Keeps.a3 _ _ _ _
 have hb1:X.heap[B]? =some (.cells (m.row ++ [H J cp,Value.bool ru]).toArray 28 (0,0)):=by rw [hXe,hBe];exact (Keeps.a2 _ _ _).heap (heap_alloc_new w _) (by simp)
 have hb2:X.heap[B + 1]? =some (.cells p.row.toArray 26 (0,0)):=by rw [hXe,hBe];exact (Keeps.a1 _ _).heap (heap_alloc2_new w _ _) (by simp)
 have hz:X.heap[B + 1 + 1]? =some (.cells #[H J 0,M none 0 0,M none 0 0,H J 0,H J 0,H J 0,H J 0,F false,H J 0,F false] 28 (0,0)):=by
  rw [hXe,show B + 1 + 1=((w.alloc (.cells (m.row ++ [H J cp,Value.bool ru]).toArray 28)).alloc (.cells p.row.toArray 26)).heap.size by rw [hBe];simp];exact heap_alloc_new _ _
 have HP:=gi (aput_any m p path pa pc X (k1.keep hkX) (k2.keep hkX) (hin.keepS hkX (fun _ _=> by simp)) hl hb hbp);obtain ⟨PT,hPT⟩:∃ PT,PT=putT m.tree path p.tree:=⟨_,rfl⟩;obtain ⟨R,hR⟩:∃ R,R=putV m.tree cp ru path p.tree:=⟨_,rfl⟩;rw [←hR];unfold putV at hR;rw [←hPT] at hR HP;have HR:=gi hR;have HBE:=gi hBe;have HKX:=gi hkX;have HZ:=gi hz;obtain ⟨op1,sa1,sc1,set1,ka1,kc1,kids1,mn1,mx1,mode1,n1,neg1⟩:=m;obtain ⟨op2,sa2,sc2,set2,ka2,kc2,kids2,mn2,mx2,mode2,n2,neg2⟩:=p;have HXE:=gi (show X=((w.alloc (.cells #[H J op1,M sa1 set1.length sc1,M ka1 kids1.length kc1,H J mn1,H J mx1,H J mode1,H J n1,F neg1,H J cp,F ru] 28)).alloc (.cells #[H J op2,M sa2 set2.length sc2,M ka2 kids2.length kc2,H J mn2,H J mx2,H J mode2,H J n2,F neg2] 26)).alloc (.cells #[H J 0,M none 0 0,M none 0 0,H J 0,H J 0,H J 0,H J 0,F false,H J 0,F false] 28) from hXe);simp only [MRe.val] at HP;obtain ⟨c0,c1,c2,c3,c4,c5,c6,c7,c8,c9,cf⟩:=row10_cells (show X.heap[B]? =some (.cells #[H J op1,M sa1 set1.length sc1,M ka1 kids1.length kc1,H J mn1,H J mx1,H J mode1,H J n1,F neg1,H J cp,F ru] 28 (0,0)) from hb1);obtain ⟨d0,d1,d2,d3,d4,d5,d6,d7⟩:=row_cells (show X.heap[B + 1]? =some (.cells #[H J op2,M sa2 set2.length sc2,M ka2 kids2.length kc2,H J mn2,H J mx2,H J mode2,H J n2,F neg2] 26 (0,0)) from hb2)
 show Calls Tryz.prog 62 #[.agg #[H J op1,M sa1 set1.length sc1,M ka1 kids1.length kc1,H J mn1,H J mx1,H J mode1,H J n1,F neg1,H J cp,F ru],M pa path.length pc,.agg #[H J op2,M sa2 set2.length sc2,M ka2 kids2.length kc2,H J mn2,H J mx2,H J mode2,H J n2,F neg2]] w _
 clear hBe hXe hkX hb1 hb2 hz hR k1 k2 hin hb hbp cf hPT;go_enter Tryz.func62,Tryz.ntmps62
 go_upto_region 1 with fail
 rw [←HXE.o,←HBE.o];go_wp2_with fail
 refine Calls.mono HP.o ?_;rintro e w2 ⟨q,rfl,hqt,hqo,hk2,hqf⟩;have K2:=gi hk2;have c8a:=hk2.c c8;have c9a:=hk2.c c9;have QT:=gi hqt;have QO:=gi hqo;have HQF:=gi (show ∀ b∈q.blocks,B + 1 + 1 < b from fun b hb=> by
  rcases hqf b hb with h | h
  ·cases h
  ·have:=lt_of_block HZ.o;omega)
 clear hk2 hqt hqo hqf c0 c1 c2 c3 c4 c5 c6 c7 c8 c9 d0 d1 d2 d3 d4 d5 d6 d7;obtain ⟨q0,hq0⟩:∃ q0,q0=q:=⟨_,rfl⟩;rw [←hq0] at QT QO HQF;have Q0:=gi hq0;obtain ⟨op9,sa9,sc9,set9,ka9,kc9,kids9,mn9,mx9,mode9,n9,neg9⟩:=q;simp only [MRe.val];clear hq0;go_upto_region 2 with fail
 obtain ⟨V,hVe⟩:∃ V,V=w2.alloc (.cells #[H J op9,M sa9 set9.length sc9,M ka9 kids9.length kc9,H J mn9,H J mx9,H J mode9,H J n9,F neg9] 26):=⟨_,rfl⟩;obtain ⟨G8,hG8⟩:∃ G8,G8=w2.heap.size:=⟨_,rfl⟩;have hkV:Keeps [] w2 V:=by rw [hVe];exact Keeps.a1 _ _
 have hg8:V.heap[G8]? =some (.cells #[H J op9,M sa9 set9.length sc9,M ka9 kids9.length kc9,H J mn9,H J mx9,H J mode9,H J n9,F neg9] 26 (0,0)):=by rw [hVe,hG8];exact heap_alloc_new w2 _
 have HG8:=gi hg8;rw [←hVe,←hG8];have KV:=gi (K2.o.trans hkV);have HQV:=gi (QO.o.keep hkV);have c8b:=hkV.c c8a;have c9b:=hkV.c c9a;have HZV:=gi (KV.o.h HZ.o);clear hVe hG8 hkV hg8 c8a c9a
 cases PT with
 | none=>
  have HRN:=gi (show R=none by rw [HR.o]);have HSV:=gi (set10_heap HZV.o (H J 0) (M none 0 0) (M none 0 0) (H J 0) (H J 0) (H J 0) (H J 0) (F false) (H J 0) (F false));have HKS:=gi ((HKX.o.trans KV.o).after (set10_keeps V (B + 1 + 1) (H J 0) (M none 0 0) (M none 0 0) (H J 0) (H J 0) (H J 0) (H J 0) (F false) (H J 0) (F false)) (by intro x hx;simp at hx;subst hx;exact .inr (by have:=HBE.o;omega)));obtain ⟨z0,z1,z2,z3,z4,z5,z6,z7,z8,z9,zf⟩:=row10_cells HZV.o;simp only [Option.isSome_none,Bool.false_eq_true,if_false];go_wp2;refine bodyPost_ret (results_row_tmp rfl _ _ (B + 1 + 1) 28 #[H J 0,M none 0 0,M none 0 0,H J 0,H J 0,H J 0,H J 0,F false,H J 0,F false] (0,0) _ rfl HSV.o Tryz.underlying28 rfl sizePat) rfl ?_;exact PatOut.of_none HRN.o (by rw [HRN.o];rfl) HKS.o
 | some x=>
  simp only [Option.isSome_some,if_true];obtain ⟨e0,e1,e2,e3,e4,e5,e6,e7⟩:=row_cells HG8.o;go_upto_region 5 with fail
  obtain ⟨U,hUe⟩:∃ U,U=V.alloc (.cells #[H J op9,M sa9 set9.length sc9,M ka9 kids9.length kc9,H J mn9,H J mx9,H J mode9,H J n9,F neg9,H J cp,F ru] 28):=⟨_,rfl⟩;obtain ⟨G9,hG9⟩:∃ G9,G9=V.heap.size:=⟨_,rfl⟩;have hkU:Keeps [] V U:=by rw [hUe];exact Keeps.a1 _ _
  have hg9:U.heap[G9]? =some (.cells #[H J op9,M sa9 set9.length sc9,M ka9 kids9.length kc9,H J mn9,H J mx9,H J mode9,H J n9,F neg9,H J cp,F ru] 28 (0,0)):=by rw [hUe,hG9];exact heap_alloc_new V _
  have HG9:=gi hg9;rw [←hUe,←hG9];have KU:=gi (KV.o.trans hkU);have HQU:=gi (HQV.o.keep hkU);clear hUe hG9 hkU hg9 c8b c9b e0 e1 e2 e3 e4 e5 e6 e7 HZV HQV KV HG8;obtain ⟨e0,e1,e2,e3,e4,e5,e6,e7,e8,e9,ef⟩:=row10_cells HG9.o;have HA:=gi (show Calls Tryz.prog 59 #[.agg #[H J op9,M sa9 set9.length sc9,M ka9 kids9.length kc9,H J mn9,H J mx9,H J mode9,H J n9,F neg9,H J cp,F ru]] U fun e w'=> e=.returned (H J (validE x cp ru))∧Keeps [] U w' from by
   have h:=avalid_any q0 cp ru U HQU.o;rw [QT.o,Q0.o] at h;exact h)
  obtain ⟨v,hv⟩:∃ v,v=validE x cp ru:=⟨_,rfl⟩;rw [←hv] at HA;have HRX:=gi (show R=if v=0 then some x else none by rw [HR.o,hv]);clear hv HR;go_wp2_with fail
  refine Calls.mono HA.o ?_;rintro e w5 ⟨rfl,hk5⟩;have K5:=gi (KU.o.trans hk5);have HZ5:=gi (K5.o.h HZ.o);have HQ5:=gi (HQU.o.keep hk5);have h9:=hk5.h HG9.o;clear hk5 e0 e1 e2 e3 e4 e5 e6 e7 e8 e9 ef
  by_cases hv:v=0
  ·subst hv;have HRS:=gi (show R=some x by rw [HRX.o,if_pos rfl]);obtain ⟨e0,e1,e2,e3,e4,e5,e6,e7,e8,e9,ef⟩:=row10_cells h9;have HSV:=gi (set10_heap HZ5.o (H J op9) (M sa9 set9.length sc9) (M ka9 kids9.length kc9) (H J mn9) (H J mx9) (H J mode9) (H J n9) (F neg9) (H J cp) (F ru));have kS:=set10_keeps w5 (B + 1 + 1) (H J op9) (M sa9 set9.length sc9) (M ka9 kids9.length kc9) (H J mn9) (H J mx9) (H J mode9) (H J n9) (F neg9) (H J cp) (F ru);have HKS:=gi ((HKX.o.trans K5.o).after kS (by intro x hx;simp at hx;subst hx;exact .inr (by have:=HBE.o;omega)));have HQ6:=gi (HQ5.o.keepS kS fun b hb=> by have:=HQF.o b hb;simp;omega);obtain ⟨z0,z1,z2,z3,z4,z5,z6,z7,z8,z9,zf⟩:=row10_cells HZ5.o;clear kS h9;go_wp2;refine bodyPost_ret (results_row_tmp rfl _ _ (B + 1 + 1) 28 #[H J op9,M sa9 set9.length sc9,M ka9 kids9.length kc9,H J mn9,H J mx9,H J mode9,H J n9,F neg9,H J cp,F ru] (0,0) _ rfl HSV.o Tryz.underlying28 rfl sizePat) rfl ?_;exact PatOut.of_some q0 (by rw [HRS.o,QT.o];rfl) (by rw [HRS.o,Q0.o];rfl) HQ6.o HKS.o (fun b hb=> by have:=HQF.o b hb;have:=HBE.o;omega)
  ·have HRN:=gi (show R=none by rw [HRX.o,if_neg hv]);have hvb:(v !=0)=true:=by simpa using hv
   have HSV:=gi (set10_heap HZ5.o (H J 0) (M none 0 0) (M none 0 0) (H J 0) (H J 0) (H J 0) (H J 0) (F false) (H J 0) (F false));have HKS:=gi ((HKX.o.trans K5.o).after (set10_keeps w5 (B + 1 + 1) (H J 0) (M none 0 0) (M none 0 0) (H J 0) (H J 0) (H J 0) (H J 0) (F false) (H J 0) (F false)) (by intro x hx;simp at hx;subst hx;exact .inr (by have:=HBE.o;omega)));obtain ⟨z0,z1,z2,z3,z4,z5,z6,z7,z8,z9,zf⟩:=row10_cells HZ5.o;clear h9;go_wp2;refine bodyPost_ret (results_row_tmp rfl _ _ (B + 1 + 1) 28 #[H J 0,M none 0 0,M none 0 0,H J 0,H J 0,H J 0,H J 0,F false,H J 0,F false] (0,0) _ rfl HSV.o Tryz.underlying28 rfl sizePat) rfl ?_;exact PatOut.of_none HRN.o (by rw [HRN.o];rfl) HKS.o
end Go.Proofs.YtjnlkjlbejelgaaGreat
