/- Part 20 of the proof. No condition: every lemma says its own. -/
import Derived.Test.YtjnlkjlbejelgaaGreatQar
import Derived.Test.YtjnlkjlbejelgaaGreatQas
import Derived.Test.YtjnlkjlbejelgaaGreatQaf
namespace Go.Proofs.YtjnlkjlbejelgaaGreat
open Go.RowKit Go.Sort Go.BigFrame
open Go.Value renaming int→H,slice→M,bool→F
open Go.IntKind renaming i64→J
open Go.RowKit
set_option maxRecDepth 100000
set_option maxHeartbeats 16000000
theorem one_any (ka:Option Addr) (kc:Nat) (kids:List MRe) (w:World) (hk:KidsIn w ka kc kids):
  Calls Tryz.prog 55 #[M ka kids.length kc] w fun e w'=> ∃ m:MRe,e=.returned m.val∧m.tree=naryT 2 (MRe.trees kids)∧m.OK w'∧Keeps [] w w'∧∀ b∈m.blocks,b∈blockIf kids.length ka ++ MRe.blocksL kids:=by
 have HK:=gi hk;clear hk
 by_cases h1:kids.length=1
 ·obtain ⟨b,off,rfl,hb,hx⟩:=HK.o.nodes.kid (by omega);have hx0:=hx 0 (by omega);have hok:=HK.o.all kids[0] (List.getElem_mem (by omega));have hblk:∀ q∈kids[0].blocks,q∈blockIf kids.length (some ⟨b,off,none⟩) ++ MRe.blocksL kids:=fun x hx=> List.mem_append_right _ (MRe.mem_blocksL (List.getElem_mem _) hx);have HBLK:=gi hblk;clear hblk;have htr:naryT 2 (MRe.trees kids)=kids[0].tree:=by
   match kids,h1 with
   | [x],_=> rfl
  have HTR:=gi htr;have HOK:=gi hok
  generalize kids[0]=m at *
  obtain ⟨m0,hm0⟩:∃ m0,m0=m:=⟨_,rfl⟩;rw [←hm0] at HTR HOK HBLK;have HM:=gi hm0;clear hm0;obtain ⟨op1,sa1,sc1,set1,ka1,kc1,kids1,mn1,mx1,mode1,n1,neg1⟩:=m;have g:=hx0.node;rw [Nat.zero_mul,Nat.add_zero] at g;obtain ⟨c0,c1,c2,c3,c4,c5,c6,c7⟩:=id g;clear g hx0 htr hok hx;have hlen:(kids.length:Int)=1:=by omega
  go_enter Tryz.func55,Tryz.ntmps55
  go_upto_region 2 with fail
  go_wp2_with (refine wpList_store_row rfl 26 (.tmp 2) (.tmp 8) rfl w.heap.size #[H J op1,M sa1 set1.length sc1,M ka1 kids1.length kc1,H J mn1,H J mx1,H J mode1,H J n1,F neg1] rfl rfl 26 #[H J 0,M none 0 0,M none 0 0,H J 0,H J 0,H J 0,H J 0,F false] (heap_alloc_new w _) sizeRe rfl (row8_one _ _ _ _ _ _ _ _ _ _ _ _) ?_)
  have hR:=setRow_heap (w.alloc (.cells #[H J 0,M none 0 0,M none 0 0,H J 0,H J 0,H J 0,H J 0,F false] 26)) w.heap.size _ #[H J op1,M sa1 set1.length sc1,M ka1 kids1.length kc1,H J mn1,H J mx1,H J mode1,H J n1,F neg1] 26 (0,0) (heap_alloc_new w _);refine rc hR ?_;have kk:Keeps [] w ((w.alloc (.cells #[H J 0,M none 0 0,M none 0 0,H J 0,H J 0,H J 0,H J 0,F false] 26)).setRow w.heap.size #[H J op1,M sa1 set1.length sc1,M ka1 kids1.length kc1,H J mn1,H J mx1,H J mode1,H J n1,F neg1]):=((Keeps.refl [] w).alloc _).setRow (.inr (Nat.le_refl _)) _;refine ⟨m0,by rw [HM.o];rfl,by rw [HTR.o],HOK.o.keep kk,kk,HBLK.o⟩
 ·have htr:naryT 2 (MRe.trees kids)=.node 2 [] (MRe.trees kids) 0 0 0 0 false:=by
   match kids,h1 with
   | [],_=> rfl
   | x::y::r,_=> rfl
  have HTR:=gi htr;clear htr;have hcap:=HK.o.nodes.cap;have hle:=HK.o.nodes.le;unfold maxLen at hcap;go_enter Tryz.func55,Tryz.ntmps55
  go_wp2;refine bodyPost_ret (results_cell_row rfl _ _ w.heap.size 26 #[H J 2,M none 0 0,M ka kids.length kc,H J 0,H J 0,H J 0,H J 0,F false] (0,0) _ rfl (heap_alloc_new w _) Tryz.underlying26 rfl sizeRe) rfl ?_;exact ⟨.node 2 none 0 [] ka kc kids 0 0 0 0 false,rfl,by rw [HTR.o];rfl,.of (SpansIn.nil _) (HK.o.keep (Keeps.a1 _ _)),Keeps.a1 _ _,fun b hb=> by simpa [MRe.blocks,blockIf_nil] using hb⟩
theorem starB_iff (t:Tree):starB t=(t.op==4 && (t.mn==0 && (t.mx== -1 && t.mode==0))):=by
 unfold starB greedyB
 cases t.op==4 <;> cases t.mn==0 <;> cases t.mx== -1 <;> cases t.mode==0 <;> rfl
theorem rstar_any (m1 m2:MRe) (w:World) (k1:m1.OK w) (k2:m2.OK w) (f1:m1.tree.WF) (b1:m1.tree.bulk≤100000) (b2:m2.tree.bulk≤100000):
  Calls Tryz.prog 133 #[m1.val,m2.val] w fun e w'=> e=.returned (F (starB m1.tree && eqB (kid0 m1.tree) m2.tree))∧Keeps [] w w':=by
 obtain ⟨R,hR0⟩:∃ R,R=(starB m1.tree && eqB (kid0 m1.tree) m2.tree):=⟨_,rfl⟩;rw [←hR0];rw [starB_iff] at hR0;obtain ⟨m0,hm0⟩:∃ m0,m0=m1:=⟨_,rfl⟩;rw [←hm0] at k1 f1 b1;have hm1:=hm0;obtain ⟨op1,sa1,sc1,set1,ka1,kc1,kids1,mn1,mx1,mode1,n1,neg1⟩:=m1;obtain ⟨n0,hn0⟩:∃ n0,n0=m2:=⟨_,rfl⟩;rw [←hn0] at k2 b2;have hn1:=hn0;obtain ⟨op2,sa2,sc2,set2,ka2,kc2,kids2,mn2,mx2,mode2,n2,neg2⟩:=m2;replace hR0:R=((op1==4 && (mn1==0 && (mx1== -1 && mode1==0))) && eqB (kid0 m0.tree) n0.tree):=by rw [hR0,hm0,hn0];rfl
 have hmo:m0.tree.op=op1:=by rw [hm0];rfl
 simp only [MRe.val]
 by_cases h4:op1=4
 ·by_cases hn:mn1=0
  ·by_cases hx:mx1= -1
   ·by_cases ho:mode1=0
    ·obtain ⟨b3,o3,k3,hka3,hk3m,hk3a,hk3o,hg3,hln0,hln⟩:=rep_kid k1 f1 (by rw [hmo];exact h4) hm1;have b3':k3.tree.bulk≤100000:=by rw [hm0] at b1;exact (kids_bulk b1).2.2 _ hk3m
     have HE:=fun (W:World) (h:Keeps [] w W)=> requal_any k3 n0 W (hk3o.keep h) (k2.keep h) b3' b2;rw [hg3] at hR0;obtain ⟨q,hq⟩:∃ q,q=eqB k3.tree n0.tree:=⟨_,rfl⟩;simp only [←hq] at HE hR0;have HR:=gi (show R=q by rw [hR0,h4,hn,hx,ho];simp);have hv:n0.val=.agg #[H J op2,M sa2 set2.length sc2,M ka2 kids2.length kc2,H J mn2,H J mx2,H J mode2,H J n2,F neg2]:=by rw [hn0];rfl
     simp only [hv] at HE;obtain ⟨op3,sa3,sc3,set3,ka3,kc3,kids3,mn3,mx3,mode3,n3,neg3⟩:=k3;have g:=hk3a.node;obtain ⟨e0,e1,e2,e3,e4,e5,e6,e7⟩:=id g;simp only [MRe.val] at HE;obtain ⟨B,Y,c0,c1,c2,c3,c4,c5,c6,c7,d0,d1,d2,d3,d4,d5,d6,d7,HYE,HBE,KY⟩:=pre2 w op1 sa1 sc1 set1 ka1 kc1 kids1 mn1 mx1 mode1 n1 neg1 op2 sa2 sc2 set2 ka2 kc2 kids2 mn2 mx2 mode2 n2 neg2;obtain ⟨x0,x1,x2,x3,x4,x5,x6,x7⟩:=KY.o.c8 e0 e1 e2 e3 e4 e5 e6 e7;have cE:∀ d os,Calls Tryz.prog 95 #[.agg #[H J op3,M sa3 set3.length sc3,M ka3 kids3.length kc3,H J mn3,H J mx3,H J mode3,H J n3,F neg3],.agg #[H J op2,M sa2 set2.length sc2,M ka2 kids2.length kc2,H J mn2,H J mx2,H J mode2,H J n2,F neg2]] (grow (redrawn Y d) os) fun e w''=> e=.returned (F q)∧∃ p:Regrown,w''=grow (redrawn Y p.d) p.os:=fun d os=> Calls.regrown_of ((HE _ (KY.o.trans (Keeps.of_below (below_regrown Y d os)))).mono fun e w' ⟨he,hk⟩=> ⟨he,hk.below (Nat.le_refl _)⟩);have CE:=gi cE;have u0:=cell_regrown c0;have u1:=cell_regrown c1;have u2:=cell_regrown c2;have u3:=cell_regrown c3;have u4:=cell_regrown c4;have u5:=cell_regrown c5;have u6:=cell_regrown c6;have u7:=cell_regrown c7;have v0:=cell_regrown d0;have v1:=cell_regrown d1;have v2:=cell_regrown d2;have v3:=cell_regrown d3;have v4:=cell_regrown d4;have v5:=cell_regrown d5;have v6:=cell_regrown d6;have v7:=cell_regrown d7;have y0:=cell_regrown x0;have y1:=cell_regrown x1;have y2:=cell_regrown x2;have y3:=cell_regrown x3;have y4:=cell_regrown x4;have y5:=cell_regrown x5;have y6:=cell_regrown x6;have y7:=cell_regrown x7;subst hka3;subst h4;subst hn;subst hx;subst ho;clear cE HE c0 c1 c2 c3 c4 c5 c6 c7 d0 d1 d2 d3 d4 d5 d6 d7 x0 x1 x2 x3 x4 x5 x6 x7 g e0 e1 e2 e3 e4 e5 e6 e7 k1 k2 f1 hm1 hm0 hn0 hn1 hk3m hk3a hk3o hg3 hq hR0 b1 b2 b3' hv hmo;go_enter Tryz.func133,Tryz.ntmps133
     go_upto_region 1 with fail
     rw [←HYE.o,←HBE.o];refine wp_region_quiet_below (by kernel_rfl) (by kernel_rfl) ?_
     repeat (go_big_quiet_step (exact CE.o _ _))
     refine wpQuiet_nil ?_;intro _ hw';obtain ⟨pq,hw''⟩:=hw';subst hw'';have hk:=Keeps.of_below (below_regrown Y pq.d pq.os);have HK:=gi (KY.o.trans hk);clear hk u0 u1 u2 u3 u4 u5 u6 u7 v0 v1 v2 v3 v4 v5 v6 v7 y0 y1 y2 y3 y4 y5 y6 y7
     generalize grow (redrawn Y pq.d) pq.os=Z at *
     go_wp2;go_ret;exact ⟨by rw [HR.o];rfl,HK.o⟩
    ·have hb:(mode1==0)=false:=by simpa using ho
     have HR:=gi (show R=false by rw [hR0,hb];simp);clear hR0 hm1 hn1 hm0 hn0 k1 k2 f1 b1 b2 hmo;obtain ⟨B,Y,c0,c1,c2,c3,c4,c5,c6,c7,d0,d1,d2,d3,d4,d5,d6,d7,HYE,HBE,KY⟩:=pre2 w op1 sa1 sc1 set1 ka1 kc1 kids1 mn1 mx1 mode1 n1 neg1 op2 sa2 sc2 set2 ka2 kc2 kids2 mn2 mx2 mode2 n2 neg2;subst h4;subst hn;subst hx;go_enter Tryz.func133,Tryz.ntmps133
     go_upto_region 1 with fail
     rw [←HYE.o,←HBE.o]
     go_quiet (fail)
     go_wp2;go_ret;exact ⟨by rw [HR.o];rfl,KY.o.drewN _⟩
   ·have hb:(mx1== -1)=false:=by simpa using hx
    have HR:=gi (show R=false by rw [hR0,hb];simp);clear hR0 hm1 hn1 hm0 hn0 k1 k2 f1 b1 b2 hmo;obtain ⟨B,Y,c0,c1,c2,c3,c4,c5,c6,c7,d0,d1,d2,d3,d4,d5,d6,d7,HYE,HBE,KY⟩:=pre2 w op1 sa1 sc1 set1 ka1 kc1 kids1 mn1 mx1 mode1 n1 neg1 op2 sa2 sc2 set2 ka2 kc2 kids2 mn2 mx2 mode2 n2 neg2;subst h4;subst hn;go_enter Tryz.func133,Tryz.ntmps133
    go_upto_region 1 with fail
    rw [←HYE.o,←HBE.o]
    go_quiet (fail)
    go_wp2;go_ret;exact ⟨by rw [HR.o];rfl,KY.o.drewN _⟩
  ·have hb:(mn1==0)=false:=by simpa using hn
   have HR:=gi (show R=false by rw [hR0,hb];simp);clear hR0 hm1 hn1 hm0 hn0 k1 k2 f1 b1 b2 hmo;obtain ⟨B,Y,c0,c1,c2,c3,c4,c5,c6,c7,d0,d1,d2,d3,d4,d5,d6,d7,HYE,HBE,KY⟩:=pre2 w op1 sa1 sc1 set1 ka1 kc1 kids1 mn1 mx1 mode1 n1 neg1 op2 sa2 sc2 set2 ka2 kc2 kids2 mn2 mx2 mode2 n2 neg2;subst h4;go_enter Tryz.func133,Tryz.ntmps133
   go_upto_region 1 with fail
   rw [←HYE.o,←HBE.o]
   go_quiet (fail)
   go_wp2;go_ret;exact ⟨by rw [HR.o];rfl,KY.o.drewN _⟩
 ·have hb:(op1==4)=false:=by simpa using h4
  have HR:=gi (show R=false by rw [hR0,hb];simp);clear hR0 hm1 hn1 hm0 hn0 k1 k2 f1 b1 b2 hmo;obtain ⟨B,Y,c0,c1,c2,c3,c4,c5,c6,c7,d0,d1,d2,d3,d4,d5,d6,d7,HYE,HBE,KY⟩:=pre2 w op1 sa1 sc1 set1 ka1 kc1 kids1 mn1 mx1 mode1 n1 neg1 op2 sa2 sc2 set2 ka2 kc2 kids2 mn2 mx2 mode2 n2 neg2;go_enter Tryz.func133,Tryz.ntmps133
  go_upto_region 1 with fail
  rw [←HYE.o,←HBE.o]
  go_quiet (fail)
  go_wp2;go_ret;exact ⟨by rw [HR.o];rfl,KY.o.drewN _⟩
def endlessB (t:Tree):Bool:=t.op==4 && (decide (t.mn≤1) && (t.mx== -1 && t.mode==0))
theorem rendless_any (m:MRe) (w:World):
  Calls Tryz.prog 51 #[m.val] w fun e w'=> e=.returned (F (endlessB m.tree))∧Keeps [] w w':=by
 obtain ⟨R,hR0⟩:∃ R,R=endlessB m.tree:=⟨_,rfl⟩;rw [←hR0];obtain ⟨op,sa,sc,set,ka,kc,kids,mn,mx,mode,n,neg⟩:=m;replace hR0:R=(op==4 && (decide (mn≤1) && (mx== -1 && mode==0))):=hR0;simp only [MRe.val]
 by_cases h4:op=4
 ·by_cases hn:mn≤1
  ·by_cases hx:mx= -1
   ·by_cases ho:mode=0
    ·have HR:=gi (show R=true by rw [hR0,h4,hx,ho];simp [hn]);clear hR0;obtain ⟨B,Y,c0,c1,c2,c3,c4,c5,c6,c7,HYE,HBE,KY⟩:=pre1 w op sa sc set ka kc kids mn mx mode n neg;subst h4;subst hx;subst ho;go_enter Tryz.func51,Tryz.ntmps51
     go_upto_region 1 with fail
     rw [←HYE.o,←HBE.o];go_wp2;go_ret;exact ⟨by rw [HR.o];rfl,KY.o⟩
    ·have hb:(mode==0)=false:=by simpa using ho
     have HR:=gi (show R=false by rw [hR0,hb];simp);clear hR0;obtain ⟨B,Y,c0,c1,c2,c3,c4,c5,c6,c7,HYE,HBE,KY⟩:=pre1 w op sa sc set ka kc kids mn mx mode n neg;subst h4;subst hx;go_enter Tryz.func51,Tryz.ntmps51
     go_upto_region 1 with fail
     rw [←HYE.o,←HBE.o];go_wp2;go_ret;exact ⟨by rw [HR.o];rfl,KY.o⟩
   ·have hb:(mx== -1)=false:=by simpa using hx
    have HR:=gi (show R=false by rw [hR0,hb];simp);clear hR0;obtain ⟨B,Y,c0,c1,c2,c3,c4,c5,c6,c7,HYE,HBE,KY⟩:=pre1 w op sa sc set ka kc kids mn mx mode n neg;subst h4;go_enter Tryz.func51,Tryz.ntmps51
    go_upto_region 1 with fail
    rw [←HYE.o,←HBE.o];go_wp2;go_ret;exact ⟨by rw [HR.o];rfl,KY.o⟩
  ·have HR:=gi (show R=false by rw [hR0];simp [hn]);have hn':1 < mn:=by omega
   clear hR0;obtain ⟨B,Y,c0,c1,c2,c3,c4,c5,c6,c7,HYE,HBE,KY⟩:=pre1 w op sa sc set ka kc kids mn mx mode n neg;subst h4;go_enter Tryz.func51,Tryz.ntmps51
   go_upto_region 1 with fail
   rw [←HYE.o,←HBE.o];go_wp2;go_ret;exact ⟨by rw [HR.o];rfl,KY.o⟩
 ·have hb:(op==4)=false:=by simpa using h4
  have HR:=gi (show R=false by rw [hR0,hb];simp);clear hR0;obtain ⟨B,Y,c0,c1,c2,c3,c4,c5,c6,c7,HYE,HBE,KY⟩:=pre1 w op sa sc set ka kc kids mn mx mode n neg;go_enter Tryz.func51,Tryz.ntmps51
  go_upto_region 1 with fail
  rw [←HYE.o,←HBE.o];go_wp2;go_ret;exact ⟨by rw [HR.o];rfl,KY.o⟩
theorem take_succ_all {p:Tree→Bool} {l:List Tree} {k:Nat} (hk:k < l.length) (h:∀ x∈l.take k,p x=true) (hp:p l[k]=true):∀ x∈l.take (k + 1),p x=true:=by
 rw [List.take_succ_eq_append_getElem hk];intro x hx
 rcases List.mem_append.1 hx with hx | hx
 ·exact h x hx
 ·simp at hx;subst hx;exact hp
theorem singleAll_iff (l:List Tree):singleAll l=l.all singleT:=by
 induction l with
 | nil=> rfl
 | cons x r ih=> simp only [singleAll,List.all_cons,ih]
theorem nullAll_iff (l:List Tree):nullAll l=l.all nullP:=by
 induction l with
 | nil=> rfl
 | cons x r ih=> simp only [nullAll,List.all_cons,ih]
theorem nullAny_iff (l:List Tree):nullAny l=l.any nullP:=by
 induction l with
 | nil=> rfl
 | cons x r ih=> simp only [nullAny,List.any_cons,ih]
theorem all_true {p:Tree→Bool} {l:List Tree} (h:∀ x∈l.take l.length,p x=true):l.all p=true:=by
 rw [List.take_length] at h;exact List.all_eq_true.2 h
theorem all_false {p:Tree→Bool} {l:List Tree} {k:Nat} (hk:k < l.length) (h:p l[k]=false):l.all p=false:=by
 cases hq:l.all p with
 | false=> rfl
 | true=> rw [List.all_eq_true.1 hq _ (List.getElem_mem hk)] at h;cases h
theorem any_true {p:Tree→Bool} {l:List Tree} {k:Nat} (hk:k < l.length) (h:p l[k]=true):l.any p=true:=List.any_eq_true.2 ⟨_,List.getElem_mem hk,h⟩
theorem any_false {p:Tree→Bool} {l:List Tree} (h:∀ x∈l.take l.length,p x=false):l.any p=false:=by
 rw [List.take_length] at h
 cases hq:l.any p with
 | false=> rfl
 | true=> obtain ⟨x,hx,hp⟩:=List.any_eq_true.1 hq;rw [h x hx] at hp;cases hp
theorem rsingle_any (m:MRe):∀ (w:World),m.OK w→m.tree.WF→
  Calls Tryz.prog 56 #[m.val] w fun e w'=> e=.returned (F (singleT m.tree))∧Keeps [] w w':=by
 induction m using MRe.induct with
 | h op sa sc set ka kc kids mn mx mode n neg ih=>
  intro w k1 f1;obtain ⟨R,hR0⟩:∃ R,R=singleT (MRe.tree (.node op sa sc set ka kc kids mn mx mode n neg)):=⟨_,rfl⟩;rw [←hR0];replace hR0:R=if op=3 then false else if op=2∨op=10∨op=5 then singleAll (MRe.trees kids) else if op=4 then mode==2 || (mn==mx && singleHd (MRe.trees kids)) else true:=by rw [hR0];simp only [MRe.tree,singleT]
  have hno:=wf_node f1;have HI:=gi (fun k (hk:k∈kids) W (h:Keeps [] w W)=> ih k hk W ((k1.kid hk).keep h) (wf_kid f1 hk));have hcap:=k1.nodes.cap;have hle:=k1.nodes.le;unfold maxLen at hcap;have HK:=gi k1.kids;simp only [MRe.val];obtain ⟨B,Y,c0,c1,c2,c3,c4,c5,c6,c7,HYE,HBE,KY⟩:=pre1 w op sa sc set ka kc kids mn mx mode n neg;clear ih k1 f1
  by_cases h3:op=3
  ·rw [if_pos h3] at hR0;subst h3;subst hR0;clear hno;go_enter Tryz.func56,Tryz.ntmps56
   go_upto_region 1 with fail
   rw [←HYE.o,←HBE.o];go_wp2;go_ret;exact ⟨rfl,KY.o⟩
  ·rw [if_neg h3] at hR0
   by_cases hA:op=2∨op=10∨op=5
   ·rw [if_pos hA,singleAll_iff] at hR0;have HR0:=gi hR0;clear hR0 hno h3
    rcases hA with rfl | rfl | rfl
    all_goals
     go_enter Tryz.func56,Tryz.ntmps56
     go_upto_region 1 with fail
     rw [←HYE.o,←HBE.o];go_wp2
     go_loopw [3] (fun i wr=> ∃ k:Nat,k≤kids.length∧i=H J k∧(∀ x∈(MRe.trees kids).take k,singleT x=true)∧Keeps [] Y wr) (fun i _=> kids.length - (intOf i).toNat)
     case atStart=> exact ⟨0,Nat.zero_le _,rfl,by simp,Keeps.refl _ _⟩
     case round=>
      obtain ⟨k,hkk,rfl,hpk,hkp⟩:=hrel;have HP:=gi hpk;have HKP:=gi hkp;have y2:=hkp.c c2;clear hpk hkp c0 c1 c2 c3 c4 c5 c6 c7
      by_cases hlt:k < kids.length
      ·obtain ⟨b,off,rfl,hb,hx⟩:=(HK.o.keep (KY.o.trans HKP.o)).nodes.kid (by omega);have hx0:=hx k hlt;have HC:=gi (HI.o kids[k] (List.getElem_mem hlt) wr (KY.o.trans HKP.o));have hlt':k < (MRe.trees kids).length:=by rw [MRe.trees_length];exact hlt
       have hn:=fun h=> take_succ_all (p:=singleT) hlt' HP.o h;have hf:=fun h=> all_false (p:=singleT) hlt' h;rw [trees_getElem kids k hlt] at hn hf;have HN:=gi hn;have HF:=gi hf
       generalize kids[k]=m at *
       obtain ⟨q,hq⟩:∃ q,q=singleT m.tree:=⟨_,rfl⟩;rw [←hq] at HC HN HF;obtain ⟨op1,sa1,sc1,set1,ka1,kc1,kids1,mn1,mx1,mode1,n1,neg1⟩:=m;have g:=hx0.node;obtain ⟨e0,e1,e2,e3,e4,e5,e6,e7⟩:=id g;simp only [MRe.val] at HC;clear g hx0 hx hq hn hf;go_wp2_with fail
       refine Calls.mono HC.o ?_;rintro e w3 ⟨rfl,hk3⟩;have K3:=gi (HKP.o.trans hk3);clear hk3
       cases q with
       | true=>
        have HN2:=gi (HN.o rfl);go_wp2;go_roundw
        case rel=> exact ⟨k + 1,by omega,by go_num,HN2.o,K3.o⟩
        case measure=> simp [intOf];omega
       | false=>
        have HF2:=gi (HF.o rfl);go_wp2;go_ret;exact ⟨by rw [HR0.o,HF2.o];rfl,KY.o.trans K3.o⟩
      ·obtain rfl:k=kids.length:=by omega
       have h0:=all_true (p:=singleT) (l:=MRe.trees kids) (by rw [MRe.trees_length];exact HP.o);have H0:=gi h0;clear h0;go_wp2;go_ret;exact ⟨by rw [HR0.o,H0.o];rfl,KY.o.trans HKP.o⟩
   ·rw [if_neg hA] at hR0;have h2:¬ op=2:=fun h=> hA (.inl h);have h10:¬ op=10:=fun h=> hA (.inr (.inl h));have h5:¬ op=5:=fun h=> hA (.inr (.inr h))
    by_cases h4:op=4
    ·rw [if_pos h4] at hR0;have hlen0:kids.length=1:=hno.hone (by simp [h4]);have hln0:0 < kids.length:=by omega
     have hln:(0:Int) < (kids.length:Int):=by omega
     obtain ⟨b1,o1,k0,rfl,hk0m,hk00,hk0a,hk0o⟩:=HK.o.head hln0;obtain ⟨r,hr⟩:=trees_head hk00;have hg:singleHd (MRe.trees kids)=singleT k0.tree:=by rw [hr];rfl
     rw [hg] at hR0;have HC:=HI.o k0 hk0m;obtain ⟨q,hq⟩:∃ q,q=singleT k0.tree:=⟨_,rfl⟩;simp only [←hq] at HC hR0;subst h4;obtain ⟨op1,sa1,sc1,set1,ka1,kc1,kids1,mn1,mx1,mode1,n1,neg1⟩:=k0;have g:=hk0a.node;obtain ⟨e0,e1,e2,e3,e4,e5,e6,e7⟩:=id g;obtain ⟨d0,d1,d2,d3,d4,d5,d6,d7⟩:=KY.o.c8 e0 e1 e2 e3 e4 e5 e6 e7;simp only [MRe.val] at HC;have HC:=gi HC;clear g e0 e1 e2 e3 e4 e5 e6 e7 hk0m hk00 hk0a hk0o hr hg hq hlen0 hno h3 hA h2 h10 h5
     by_cases m2:mode=2
     ·subst m2;have HR:=gi (show R=true by rw [hR0];rfl);clear hR0;go_enter Tryz.func56,Tryz.ntmps56
      go_upto_region 1 with fail
      rw [←HYE.o,←HBE.o];go_wp2;go_ret;exact ⟨by rw [HR.o];rfl,KY.o⟩
     ·have hb2:(mode==2)=false:=by simpa using m2
      by_cases me:mn=mx
      ·subst me;have HR:=gi (show R=q by rw [hR0,hb2];simp);clear hR0;go_enter Tryz.func56,Tryz.ntmps56
       go_upto_region 1 with fail
       rw [←HYE.o,←HBE.o];go_wp2_with fail
       refine Calls.mono (HC.o _ KY.o) ?_;rintro e w3 ⟨rfl,hk3⟩;have K3:=gi (KY.o.trans hk3);clear hk3;go_wp2;go_ret;exact ⟨by rw [HR.o];rfl,K3.o⟩
      ·have hbe:(mn==mx)=false:=by simpa using me
       have HR:=gi (show R=false by rw [hR0,hb2,hbe];rfl);clear hR0;go_enter Tryz.func56,Tryz.ntmps56
       go_upto_region 1 with fail
       rw [←HYE.o,←HBE.o];go_wp2;go_ret;exact ⟨by rw [HR.o];rfl,KY.o⟩
    ·rw [if_neg h4] at hR0;have HR:=gi hR0;have q3:(op==3)=false:=by simpa using h3
     have q2:(op==2)=false:=by simpa using h2
     have q10:(op==10)=false:=by simpa using h10
     have q5:(op==5)=false:=by simpa using h5
     have q4:(op==4)=false:=by simpa using h4
     clear hR0 hA hno;go_enter Tryz.func56,Tryz.ntmps56
     go_upto_region 1 with fail
     rw [←HYE.o,←HBE.o];go_wp2;go_ret;exact ⟨by rw [HR.o];rfl,KY.o⟩
structure NodeQ (op:Int) (set:List (Int × Int)) (nk:Nat) (mn:Int):Prop where
 hop:0≤op∧op≤11
 hone:op=4∨op=5∨op=7∨op=8∨op=9→nk=1
 hrep:op=4→0≤mn
 hset:op=1→SpansOK set
 hnset:op≠1→set=[]
inductive Tree.WFq:Tree→Prop
 | mk {op set kids mn mx mode n neg} (h:NodeQ op set kids.length mn) (hk:∀ k,k∈kids→Tree.WFq k):Tree.WFq (.node op set kids mn mx mode n neg)
theorem Tree.WFq.node {op set kids mn mx mode n neg} (h:Tree.WFq (.node op set kids mn mx mode n neg)):NodeQ op set kids.length mn:=by cases h;assumption
theorem Tree.WFq.kid {op set kids mn mx mode n neg} (h:Tree.WFq (.node op set kids mn mx mode n neg)) {k:Tree} (hk:k∈kids):k.WFq:=by cases h with | mk _ h=> exact h k hk
theorem wfq_node {op sa sc set ka kc kids mn mx mode n neg} (h:(MRe.node op sa sc set ka kc kids mn mx mode n neg).tree.WFq):NodeQ op set kids.length mn:=by
 have:=h.node
 rw [MRe.trees_length] at this;exact this
theorem wfq_kid {op sa sc set ka kc kids mn mx mode n neg} (h:(MRe.node op sa sc set ka kc kids mn mx mode n neg).tree.WFq) {k:MRe} (hk:k∈kids):k.tree.WFq:=
 h.kid (by rw [MRe.trees_eq];exact List.mem_map_of_mem hk)
theorem Tree.WF.q {t:Tree} (h:t.WF):t.WFq:=by
 induction t using Tree.induct with
 | h op set kids mn mx mode n neg ih=>
  have hn:=h.node;exact .mk ⟨hn.hop,hn.hone,fun h4=> (hn.hrep h4).1,fun h1=> (hn.hset h1).1,hn.hnset⟩ fun k hk=> ih k hk (h.kid hk)
theorem wfq_cat {ks:List Tree} (h:∀ k∈ks,k.WF):Tree.WFq (.node 2 [] ks 0 0 0 0 false):=
 .mk ⟨by omega,fun h=> by omega,fun h=> by omega,fun h=> by omega,fun _=> rfl⟩ fun k hk=> (h k hk).q
theorem rnull_any (m:MRe):∀ (w:World),m.OK w→m.tree.WFq→
  Calls Tryz.prog 52 #[m.val] w fun e w'=> e=.returned (F (nullP m.tree))∧Keeps [] w w':=by
 induction m using MRe.induct with
 | h op sa sc set ka kc kids mn mx mode n neg ih=>
  intro w k1 f1;obtain ⟨R,hR0⟩:∃ R,R=nullP (MRe.tree (.node op sa sc set ka kc kids mn mx mode n neg)):=⟨_,rfl⟩;rw [←hR0];replace hR0:R=if op=0∨op=6∨op=7∨op=8∨op=11 then true else if op=2 then nullAll (MRe.trees kids) else if op=4∧mn=0 then true else if op=4∨op=3∨op=10∨op=5∨op=9 then nullAny (MRe.trees kids) else false:=by rw [hR0];simp only [MRe.tree,nullP]
  have hno:=wfq_node f1;have HI:=gi (fun k (hk:k∈kids) W (h:Keeps [] w W)=> ih k hk W ((k1.kid hk).keep h) (wfq_kid f1 hk));have hcap:=k1.nodes.cap;have hle:=k1.nodes.le;unfold maxLen at hcap;have HK:=gi k1.kids;simp only [MRe.val];obtain ⟨B,Y,c0,c1,c2,c3,c4,c5,c6,c7,HYE,HBE,KY⟩:=pre1 w op sa sc set ka kc kids mn mx mode n neg;clear ih k1 f1
  by_cases h1:op=1
  ·subst h1;have HR:=gi (show R=false by rw [hR0];simp);clear hR0 hno;go_enter Tryz.func52,Tryz.ntmps52
   go_upto_region 1 with fail
   rw [←HYE.o,←HBE.o];go_wp2;go_ret;exact ⟨by rw [HR.o];rfl,KY.o⟩
  ·by_cases h2:op=2
   ·subst h2;have HR0:=gi (show R=(MRe.trees kids).all nullP by rw [hR0,←nullAll_iff];simp);clear hR0 hno h1;go_enter Tryz.func52,Tryz.ntmps52
    go_upto_region 1 with fail
    rw [←HYE.o,←HBE.o];go_wp2
    go_loopw [3] (fun i wr=> ∃ k:Nat,k≤kids.length∧i=H J k∧(∀ x∈(MRe.trees kids).take k,nullP x=true)∧Keeps [] Y wr) (fun i _=> kids.length - (intOf i).toNat)
    case atStart=> exact ⟨0,Nat.zero_le _,rfl,by simp,Keeps.refl _ _⟩
    case round=>
     obtain ⟨k,hkk,rfl,hpk,hkp⟩:=hrel;have HP:=gi hpk;have HKP:=gi hkp;have y2:=hkp.c c2;clear hpk hkp c0 c1 c2 c3 c4 c5 c6 c7
     by_cases hlt:k < kids.length
     ·obtain ⟨b,off,rfl,hb,hx⟩:=(HK.o.keep (KY.o.trans HKP.o)).nodes.kid (by omega);have hx0:=hx k hlt;have HC:=gi (HI.o kids[k] (List.getElem_mem hlt) wr (KY.o.trans HKP.o));have hlt':k < (MRe.trees kids).length:=by rw [MRe.trees_length];exact hlt
      have hn:=fun h=> take_succ_all (p:=nullP) hlt' HP.o h;have hf:=fun h=> all_false (p:=nullP) hlt' h;rw [trees_getElem kids k hlt] at hn hf;have HN:=gi hn;have HF:=gi hf
      generalize kids[k]=m at *
      obtain ⟨q,hq⟩:∃ q,q=nullP m.tree:=⟨_,rfl⟩;rw [←hq] at HC HN HF;obtain ⟨op1,sa1,sc1,set1,ka1,kc1,kids1,mn1,mx1,mode1,n1,neg1⟩:=m;have g:=hx0.node;obtain ⟨e0,e1,e2,e3,e4,e5,e6,e7⟩:=id g;simp only [MRe.val] at HC;clear g hx0 hx hq hn hf;go_wp2_with fail
      refine Calls.mono HC.o ?_;rintro e w3 ⟨rfl,hk3⟩;have K3:=gi (HKP.o.trans hk3);clear hk3
      cases q with
      | true=>
       have HN2:=gi (HN.o rfl);go_wp2;go_roundw
       case rel=> exact ⟨k + 1,by omega,by go_num,HN2.o,K3.o⟩
       case measure=> simp [intOf];omega
      | false=>
       have HF2:=gi (HF.o rfl);go_wp2;go_ret;exact ⟨by rw [HR0.o,HF2.o];rfl,KY.o.trans K3.o⟩
     ·obtain rfl:k=kids.length:=by omega
      have h0:=all_true (p:=nullP) (l:=MRe.trees kids) (by rw [MRe.trees_length];exact HP.o);have H0:=gi h0;clear h0;go_wp2;go_ret;exact ⟨by rw [HR0.o,H0.o];rfl,KY.o.trans HKP.o⟩
   ·by_cases hA:op=3∨op=10
    ·have HR0:=gi (show R=(MRe.trees kids).any nullP by rw [hR0,←nullAny_iff];rcases hA with rfl | rfl <;> simp);clear hR0 hno h1 h2
     rcases hA with rfl | rfl
     all_goals
      go_enter Tryz.func52,Tryz.ntmps52
      go_upto_region 1 with fail
      rw [←HYE.o,←HBE.o];go_wp2
      go_loopw [4] (fun i wr=> ∃ k:Nat,k≤kids.length∧i=H J k∧(∀ x∈(MRe.trees kids).take k,nullP x=false)∧Keeps [] Y wr) (fun i _=> kids.length - (intOf i).toNat)
      case atStart=> exact ⟨0,Nat.zero_le _,rfl,by simp,Keeps.refl _ _⟩
      case round=>
       obtain ⟨k,hkk,rfl,hpk,hkp⟩:=hrel;have HP:=gi hpk;have HKP:=gi hkp;have y2:=hkp.c c2;clear hpk hkp c0 c1 c2 c3 c4 c5 c6 c7
       by_cases hlt:k < kids.length
       ·obtain ⟨b,off,rfl,hb,hx⟩:=(HK.o.keep (KY.o.trans HKP.o)).nodes.kid (by omega);have hx0:=hx k hlt;have HC:=gi (HI.o kids[k] (List.getElem_mem hlt) wr (KY.o.trans HKP.o));have hlt':k < (MRe.trees kids).length:=by rw [MRe.trees_length];exact hlt
        have hn:=fun h=> take_all (p:=nullP) hlt' HP.o h;have hf:=fun h=> any_true (p:=nullP) hlt' h;rw [trees_getElem kids k hlt] at hn hf;have HN:=gi hn;have HF:=gi hf
        generalize kids[k]=m at *
        obtain ⟨q,hq⟩:∃ q,q=nullP m.tree:=⟨_,rfl⟩;rw [←hq] at HC HN HF;obtain ⟨op1,sa1,sc1,set1,ka1,kc1,kids1,mn1,mx1,mode1,n1,neg1⟩:=m;have g:=hx0.node;obtain ⟨e0,e1,e2,e3,e4,e5,e6,e7⟩:=id g;simp only [MRe.val] at HC;clear g hx0 hx hq hn hf;go_wp2_with fail
        refine Calls.mono HC.o ?_;rintro e w3 ⟨rfl,hk3⟩;have K3:=gi (HKP.o.trans hk3);clear hk3
        cases q with
        | false=>
         have HN2:=gi (HN.o rfl);go_wp2;go_roundw
         case rel=> exact ⟨k + 1,by omega,by go_num,HN2.o,K3.o⟩
         case measure=> simp [intOf];omega
        | true=>
         have HF2:=gi (HF.o rfl);go_wp2;go_ret;exact ⟨by rw [HR0.o,HF2.o];rfl,KY.o.trans K3.o⟩
       ·obtain rfl:k=kids.length:=by omega
        have h0:=any_false (p:=nullP) (l:=MRe.trees kids) (by rw [MRe.trees_length];exact HP.o);have H0:=gi h0;clear h0;go_wp2;go_ret;exact ⟨by rw [HR0.o,H0.o];rfl,KY.o.trans HKP.o⟩
    ·by_cases hB:op=4∨op=5∨op=9
     ·have hlen0:kids.length=1:=hno.hone (by rcases hB with h | h | h <;> simp [h]);have hln0:0 < kids.length:=by omega
      have hln:(0:Int) < (kids.length:Int):=by omega
      obtain ⟨b1,o1,k0,rfl,hk0m,hk00,hk0a,hk0o⟩:=HK.o.head hln0;obtain ⟨r,hr⟩:=trees_head hk00;have hr0:r=[]:=by
       have h:=congrArg List.length hr;rw [MRe.trees_length,hlen0] at h;simp at h;exact h
      have hg:nullAny (MRe.trees kids)=nullP k0.tree:=by rw [hr,hr0];simp [nullAny]
      rw [hg] at hR0;have HC:=HI.o k0 hk0m;obtain ⟨q,hq⟩:∃ q,q=nullP k0.tree:=⟨_,rfl⟩;simp only [←hq] at HC hR0;obtain ⟨op1,sa1,sc1,set1,ka1,kc1,kids1,mn1,mx1,mode1,n1,neg1⟩:=k0;have g:=hk0a.node;obtain ⟨e0,e1,e2,e3,e4,e5,e6,e7⟩:=id g;obtain ⟨d0,d1,d2,d3,d4,d5,d6,d7⟩:=KY.o.c8 e0 e1 e2 e3 e4 e5 e6 e7;simp only [MRe.val] at HC;have HC:=gi HC;have HNO:=gi hno;clear g e0 e1 e2 e3 e4 e5 e6 e7 hk0m hk00 hk0a hk0o hr hr0 hg hq hlen0 hno h1 h2 hA
      rcases hB with rfl | rfl | rfl
      ·by_cases m0:mn=0
       ·subst m0;have HR:=gi (show R=true by rw [hR0];simp);clear hR0;go_enter Tryz.func52,Tryz.ntmps52
        go_upto_region 1 with fail
        rw [←HYE.o,←HBE.o];go_wp2;go_ret;exact ⟨by rw [HR.o];rfl,KY.o⟩
       ·have HR:=gi (show R=q by rw [hR0];simp [m0]);have hm:=HNO.o.hrep rfl;have hm0:¬ mn≤0:=by omega
        clear hR0 hm;go_enter Tryz.func52,Tryz.ntmps52
        go_upto_region 1 with fail
        rw [←HYE.o,←HBE.o];go_wp2_with fail
        refine Calls.mono (HC.o _ KY.o) ?_;rintro e w3 ⟨rfl,hk3⟩;have K3:=gi (KY.o.trans hk3);clear hk3;go_wp2;go_ret;exact ⟨by rw [HR.o];rfl,K3.o⟩
      all_goals
       have HR:=gi (show R=q by rw [hR0];simp);clear hR0;go_enter Tryz.func52,Tryz.ntmps52
       go_upto_region 1 with fail
       rw [←HYE.o,←HBE.o];go_wp2_with fail
       refine Calls.mono (HC.o _ KY.o) ?_;rintro e w3 ⟨rfl,hk3⟩;have K3:=gi (KY.o.trans hk3);clear hk3;go_wp2;go_ret;exact ⟨by rw [HR.o];rfl,K3.o⟩
     ·have ho:op=0∨op=6∨op=7∨op=8∨op=11:=by
       have:=hno.hop
       omega
      have HR:=gi (show R=true by rw [hR0,if_pos ho]);clear hR0 hno hA hB h1 h2
      rcases ho with rfl | rfl | rfl | rfl | rfl
      all_goals
       go_enter Tryz.func52,Tryz.ntmps52
       go_upto_region 1 with fail
       rw [←HYE.o,←HBE.o];go_wp2;go_ret;exact ⟨by rw [HR.o];rfl,KY.o⟩
end Go.Proofs.YtjnlkjlbejelgaaGreat
