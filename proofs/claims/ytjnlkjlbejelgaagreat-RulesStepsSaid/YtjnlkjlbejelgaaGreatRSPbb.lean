/- Part of the proof. No condition: every lemma says its own. -/
import Derived.Test.YtjnlkjlbejelgaaGreatRSPaz
namespace Go.Proofs.YtjnlkjlbejelgaaGreat
open Go.RowKit
open Go.Value renaming int→H,slice→M,bool→F
open Go.IntKind renaming i64→J
set_option maxRecDepth 100000
set_option maxHeartbeats 16000000
def x9 (t:Tree) (cp:Int) (ru:Bool) (path:List Int):Option Tree→Int × Option Tree
 | none=> (10,none)
 | some y=> if (sr t cp ru path y).isSome then (0,sr t cp ru path y) else (4,none)
def zh (t:Tree) (cp:Int) (ru:Bool) (r:Nat) (path:List Int):Option Tree→Int × Option Tree
 | none=> (7,none)
 | some x=> x9 t cp ru path (rV r x)
def j9 (t:Tree) (cp:Int) (ru:Bool) (r:Int) (path:List Int):Int × Option Tree:=
 if gZ t cp ru=0 then if 0≤r∧r < 17 then zh t cp ru r.toNat path (jW t path) else (5,none) else (gZ t cp ru,none)
def CV (r:Int) (bP:Option Addr) (len pc:Nat):Value:=.agg #[H J r,M bP len pc]
theorem Xn {W0 w3:World} {g:Nat} {T:Tree} {op sa sc set ka kc kids mn mx mode n neg} (aW:w3.heap[g]? =some cO) (hk:I [] W0 w3) (hg:W0.heap.size≤g) (Gx:MRe.aK w3 (.node op sa sc set ka kc kids mn mx mode n neg)) (ht:MRe.ab (.node op sa sc set ka kc kids mn mx mode n neg)=T) (hne:∀ b∈(MRe.aw (.node op sa sc set ka kc kids mn mx mode n neg)),b≠g):
  ∃ (ae:MRe) (ak:World),ak=w3.setRow g #[H J op,M sa set.length sc,M ka kids.length kc,H J mn,H J mx,H J mode,H J n,F neg]∧ae.ab=T∧ae.aK ak∧I [] W0 ak∧ak.heap[g]? =some (.cells ae.row.toArray 26 (0,0)):=by
 have cU:I [g] w3 (w3.setRow g #[H J op,M sa set.length sc,M ka kids.length kc,H J mn,H J mx,H J mode,H J n,F neg]):=(I.refl [g] w3).setRow (.inl (by simp)) _;exact ⟨.node op sa sc set ka kc kids mn mx mode n neg,_,rfl,ht,Gx.bG cU fun b ad=> by have:=hne b ad;simp;exact this,hk.cn cU (by intro x hx;simp at hx;subst hx;exact .inr hg),setRow_heap w3 g _ _ _ _ aW⟩
theorem Pg (m:MRe) (cp:Int) (ru:Bool) (r:Int) (path:List Int) (bP:Option Addr) (pc:Nat) (w:World) (aj:m.aK w) (hin:hr w bP path) (hl:path.length≤1000000):
  Calls Tryz.prog 27 #[fV m cp ru,CV r bP path.length pc] w (n3 w cp ru (H J (j9 m.ab cp ru r path).1) (j9 m.ab cp ru r path).2):=by
 obtain ⟨U,cd⟩:∃ U,U=w.heap.size:=⟨_,rfl⟩;obtain ⟨aE,cz⟩:∃ aE,aE=((w.alloc (.cells (m.row ++ [H J cp,Value.bool ru]).toArray 28)).alloc (.cells #[H J r,M bP path.length pc] 61)).alloc hN:=⟨_,rfl⟩;have cq:I [] w aE:=by rw [cz];exact I.a3 _ _ _ _
 have gg:aE.heap[U]? =some (.cells (m.row ++ [H J cp,Value.bool ru]).toArray 28 (0,0)):=by rw [cz,cd];exact (I.a2 _ _ _).heap (heap_alloc_new w _) (by simp)
 have iR:aE.heap[U + 1]? =some (.cells #[H J r,M bP path.length pc] 61 (0,0)):=by rw [cz,cd];exact (I.a1 _ _).heap (heap_alloc2_new w _ _) (by simp)
 have aW:aE.heap[U + 1 + 1]? =some hN:=by
  rw [cz,show U + 1 + 1=((w.alloc (.cells (m.row ++ [H J cp,Value.bool ru]).toArray 28)).alloc (.cells #[H J r,M bP path.length pc] 61)).heap.size by rw [cd];simp];exact heap_alloc_new _ _
 have en:=C (Nn m cp ru aE (aj.ah cq));have wE:=C (fun (W:World) (h:I [] aE W) (p:MRe) (h1:p.aK W) (h2:m.ab.bm≤1000000) (h3:p.ab.bm≤1000000)=> ac3 m p cp ru path bP pc W ((aj.ah cq).ah h) h1 ((hin.bG cq (fun _ _=> by simp)).bG h (fun _ _=> by simp)) hl h2 h3);have gP:=C (fun (W:World) (h:I [] aE W) (h2:m.ab.bm≤1000000)=> W7 m path bP pc W ((aj.ah cq).ah h) ((hin.bG cq (fun _ _=> by simp)).bG h (fun _ _=> by simp)) hl h2);obtain ⟨T,hT⟩:∃ T,T=m.ab:=⟨_,rfl⟩;obtain ⟨R,aY⟩:∃ R,R=j9 m.ab cp ru r path:=⟨_,rfl⟩;rw [←aY];rw [←hT] at aY wE gP en;unfold j9 at aY;obtain ⟨ve,hve⟩:∃ v,v=gZ T cp ru:=⟨_,rfl⟩;have zr:=C (show ve=0→T.dE∧T.bm≤16640 from fun h=> by have:=ya (hve ▸ h);exact ⟨this.1,this.2.1⟩);rw [←hve] at aY en;have aD:=C aY;have aB:=C cd;have aH:=C cq;have ba:=C aW;obtain ⟨op1,aM,aN,set1,aS,kc1,aq,mn1,aI,mode1,n1,aL⟩:=m;have c7:=C (show aE=((w.alloc (.cells #[H J op1,M aM set1.length aN,M aS aq.length kc1,H J mn1,H J aI,H J mode1,H J n1,F aL,H J cp,F ru] 28)).alloc (.cells #[H J r,M bP path.length pc] 61)).alloc hN from cz);simp only [MRe.val,fV,MRe.row,List.cons_append,List.nil_append] at en wE gP;obtain ⟨ar,c1,c2,an,av,ay,ax,az,au,dg,fh⟩:=fR (show aE.heap[U]? =some (.cells #[H J op1,M aM set1.length aN,M aS aq.length kc1,H J mn1,H J aI,H J mode1,H J n1,F aL,H J cp,F ru] 28 (0,0)) from gg);have c0:aE.cell? ⟨U + 1,0,none⟩=some (H J r):=by simp [World.cell?,iR]
 have cT:aE.cell? ⟨U + 1,1,none⟩=some (M bP path.length pc):=by simp [World.cell?,iR]
 show Calls Tryz.prog 27 #[.agg #[H J op1,M aM set1.length aN,M aS aq.length kc1,H J mn1,H J aI,H J mode1,H J n1,F aL,H J cp,F ru],.agg #[H J r,M bP path.length pc]] w _
 clear cd cz cq gg iR aW aY aj hin fh hT hve;go_enter Tryz.func27,Tryz.ntmps27
 go_upto_region 1 with fail
 rw [←c7.o,←aB.o];go_wp2_with fail
 refine Calls.mono en.o ?_;rintro e w2 ⟨rfl,hk2⟩;have aU:=C hk2;have dx:=hk2.au ar c1 c2 an av ay ax az;clear ar c1 c2 an av ay ax az;obtain ⟨ar,c1,c2,an,av,ay,ax,az⟩:=dx;replace au:=hk2.c au;replace dg:=hk2.c dg;replace c0:=hk2.c c0;replace cT:=hk2.c cT;clear hk2 en
 by_cases da:ve=0
 rotate_left
 ·have Bt:(ve !=0)=true:=by simpa using da
  have ga:=C (show R=(ve,none) by rw [aD.o,if_neg da]);have ho:=C (pe (aU.o.h ba.o) (H J 0) (M none 0 0) (M none 0 0) (H J 0) (H J 0) (H J 0) (H J 0) (F false) (H J 0) (F false));have fZ:=C ((aH.o.trans aU.o).cn (pf w2 (U + 1 + 1) (H J 0) (M none 0 0) (M none 0 0) (H J 0) (H J 0) (H J 0) (H J 0) (F false) (H J 0) (F false)) (by intro x hx;simp at hx;subst hx;exact .inr (by have:=aB.o;omega)));obtain ⟨z0,z1,z2,z3,z4,z5,b9,cc,qf,z9,cj⟩:=fR (aU.o.h ba.o);go_wp2;refine bodyPost_ret (qb rfl _ _ (U + 1 + 1) 28 #[H J 0,M none 0 0,M none 0 0,H J 0,H J 0,H J 0,H J 0,F false,H J 0,F false] (0,0) _ rfl ho.o Tryz.underlying28 rfl kO) rfl ?_;exact n3.dL (by rw [ga.o]) (by rw [ga.o];rfl) fZ.o
 obtain ⟨na,hbk⟩:=zr.o da;subst da;have qs:=C na;have fY:=C hbk;have cw:=C (aD.o.trans (if_pos rfl));clear na hbk zr aD;go_wp2_with fail
 refine Calls.mono (Ps _) ?_;rintro e w3 ⟨g,rfl,Aq,aP,hg⟩;have aR:=C (aU.o.trans aP);have dx:=aP.au ar c1 c2 an av ay ax az;clear ar c1 c2 an av ay ax az;obtain ⟨ar,c1,c2,an,av,ay,ax,az⟩:=dx;replace au:=aP.c au;replace dg:=aP.c dg;replace c0:=aP.c c0;replace cT:=aP.c cT;have Jw:=C Aq;clear aP Aq hg
 by_cases uY:r < 0
 ·skip
  have ga:=C (show R=(5,none) by rw [cw.o,if_neg (by omega)]);have ho:=C (pe (aR.o.h ba.o) (H J 0) (M none 0 0) (M none 0 0) (H J 0) (H J 0) (H J 0) (H J 0) (F false) (H J 0) (F false));have fZ:=C ((aH.o.trans aR.o).cn (pf w3 (U + 1 + 1) (H J 0) (M none 0 0) (M none 0 0) (H J 0) (H J 0) (H J 0) (H J 0) (F false) (H J 0) (F false)) (by intro x hx;simp at hx;subst hx;exact .inr (by have:=aB.o;omega)));obtain ⟨z0,z1,z2,z3,z4,z5,b9,cc,qf,z9,cj⟩:=fR (aR.o.h ba.o);go_wp2;refine bodyPost_ret (qb rfl _ _ (U + 1 + 1) 28 #[H J 0,M none 0 0,M none 0 0,H J 0,H J 0,H J 0,H J 0,F false,H J 0,F false] (0,0) _ rfl ho.o Tryz.underlying28 rfl kO) rfl ?_;exact n3.dL (by rw [ga.o]) (by rw [ga.o];rfl) fZ.o
 by_cases gL:17≤r
 ·skip
  have ga:=C (show R=(5,none) by rw [cw.o,if_neg (by omega)]);have ho:=C (pe (aR.o.h ba.o) (H J 0) (M none 0 0) (M none 0 0) (H J 0) (H J 0) (H J 0) (H J 0) (F false) (H J 0) (F false));have fZ:=C ((aH.o.trans aR.o).cn (pf w3 (U + 1 + 1) (H J 0) (M none 0 0) (M none 0 0) (H J 0) (H J 0) (H J 0) (H J 0) (F false) (H J 0) (F false)) (by intro x hx;simp at hx;subst hx;exact .inr (by have:=aB.o;omega)));obtain ⟨z0,z1,z2,z3,z4,z5,b9,cc,qf,z9,cj⟩:=fR (aR.o.h ba.o);go_wp2;refine bodyPost_ret (qb rfl _ _ (U + 1 + 1) 28 #[H J 0,M none 0 0,M none 0 0,H J 0,H J 0,H J 0,H J 0,F false,H J 0,F false] (0,0) _ rfl ho.o Tryz.underlying28 rfl kO) rfl ?_;exact n3.dL (by rw [ga.o]) (by rw [ga.o];rfl) fZ.o
 have k2:=C (cw.o.trans (if_pos (by omega)));obtain ⟨rl,rfl⟩:∃ n:Nat,r=(n:Int):=⟨r.toNat,by omega⟩;have p5:rl < 17:=by omega
 have Db:=C p5;clear cw;go_wp2_with fail
 refine Calls.mono (gP.o _ aR.o (by have:=fY.o;omega)) ?_;rintro e w4 ⟨ae,rfl,a7,aT,bc,hqf⟩;obtain ⟨q0,bN⟩:∃ q0,q0=ae:=⟨_,rfl⟩;rw [←bN] at a7 aT hqf;have dt:=C bN;have dK:=C a7;have dA:=C aT;obtain ⟨bA,bB,bC,bD,bs,bt,bu,bo,bx,bw,bp,bz⟩:=ae;simp only [MRe.val];have cl:=C (aR.o.trans bc);have Dh:=C bc;have dx:=bc.au ar c1 c2 an av ay ax az;clear ar c1 c2 an av ay ax az;obtain ⟨ar,c1,c2,an,av,ay,ax,az⟩:=dx;replace au:=bc.c au;replace dg:=bc.c dg;replace c0:=bc.c c0;replace cT:=bc.c cT;clear bc hqf a7 aT bN;obtain ⟨B6,Cn⟩:∃ B6,B6=jW T path:=⟨_,rfl⟩;have ly:=C Cn;rw [←Cn] at dK ⊢;have A2:=C (show R=zh T cp ru rl path B6 by rw [Cn,k2.o,Int.toNat_natCast]);clear Cn k2 gP;go_upto_region 8 with fail
 obtain ⟨ak,cY⟩:∃ ak,ak=w4.alloc (bf bA bB bD bC bs bu bt bo bx bw bp bz):=⟨_,rfl⟩;obtain ⟨pk,tU⟩:∃ pk,pk=w4.heap.size:=⟨_,rfl⟩;have dh:I [] w4 ak:=by rw [cY];exact I.a1 _ _
 have Aa:ak.heap[pk]? =some (bf bA bB bD bC bs bu bt bo bx bw bp bz):=by rw [cY,tU];exact heap_alloc_new w4 _
 have yl:=C Aa;rw [←cY,←tU];have dG:=C (cl.o.trans dh);have wJ:=C (dA.o.ah dh);have dx:=dh.au ar c1 c2 an av ay ax az;clear ar c1 c2 an av ay ax az;obtain ⟨ar,c1,c2,an,av,ay,ax,az⟩:=dx;replace au:=dh.c au;replace dg:=dh.c dg;replace c0:=dh.c c0;replace cT:=dh.c cT;have af4:=C ((Dh.o.trans dh).h Jw.o);clear cY tU dh Aa dA cl Dh Jw
 cases B6 with
 | none=>
  simp only [Option.isSome_none,Bool.false_eq_true,if_false];have ga:=C (show R=(7,none) by rw [A2.o];rfl);have ho:=C (pe (dG.o.h ba.o) (H J 0) (M none 0 0) (M none 0 0) (H J 0) (H J 0) (H J 0) (H J 0) (F false) (H J 0) (F false));have fZ:=C ((aH.o.trans dG.o).cn (pf ak (U + 1 + 1) (H J 0) (M none 0 0) (M none 0 0) (H J 0) (H J 0) (H J 0) (H J 0) (F false) (H J 0) (F false)) (by intro x hx;simp at hx;subst hx;exact .inr (by have:=aB.o;omega)));obtain ⟨z0,z1,z2,z3,z4,z5,b9,cc,qf,z9,cj⟩:=fR (dG.o.h ba.o);go_wp2;refine bodyPost_ret (qb rfl _ _ (U + 1 + 1) 28 #[H J 0,M none 0 0,M none 0 0,H J 0,H J 0,H J 0,H J 0,F false,H J 0,F false] (0,0) _ rfl ho.o Tryz.underlying28 rfl kO) rfl ?_;exact n3.dL (by rw [ga.o]) (by rw [ga.o];rfl) fZ.o
 | some x=>
  simp only [Option.isSome_some,if_true];have sE:=C (show R=x9 T cp ru path (rV rl x) from A2.o);have hx:=Nl path qs.o ly.o.symm;have Cy:q0.ab=x:=dK.o;have hM:=C hx;have mE:=fun (W:World) (h:I [] ak W)=> (show Calls Tryz.prog (wm rl) #[q0.val] W (Mq W q0.aw (rV rl x)) from by
   have h0:=acN rl Db.o q0 W (wJ.o.ah h) (by rw [Cy];exact hx.1) (by rw [Cy];have:=fY.o;omega);rw [Cy] at h0;exact Calls.mono h0 fun _ _ h=> dc.any h)
  obtain ⟨pV,oA⟩:∃ pV,pV=rV rl x:=⟨_,rfl⟩;rw [←oA] at mE sE;have yq:=C (show ∀ y,pV=some y→y.bm≤1000000 from fun y h=> by rw [oA] at h;have:=UQ Db.o h;have:=fY.o;omega);rw [dt.o] at mE;simp only [MRe.val] at mE;have mE:=C mE;have eU:=C wJ.o.fi;have he:=XD rl Db.o;unfold n2 at he;have ht:=Pt af4.o rl Db.o;obtain ⟨td,hF⟩:∃ td,td=wm rl:=⟨_,rfl⟩;rw [←hF] at mE he ht;clear hF oA hx Cy A2 ly uY gL p5;have iC:(0:Int)≤(rl:Int):=by omega
  have hB:(rl:Int) < 17:=by have:=Db.o;omega
  obtain ⟨bg,aV,a6,bl,bq,bE,bF,bH⟩:=eR yl.o;go_upto_region 10 with fail
  go_cut [10,11] from 42 to 53 (fun iS anx db=> ∃ (Nz:Nat) (ae:MRe) (eu:World),iS=.pointer (some ⟨Nz,0,none⟩)∧anx=F pV.isSome∧eu=db∧ae.ab=pV.getD .nil∧ae.aK eu∧I [] ak eu∧eu.heap[Nz]? =some (.cells ae.row.toArray 26 (0,0)))
  case first=>
   have eA:=C ((I.refl [] ak).drew);refine rg (S:=fun w'=> (iK w' pk bA bB bD bC bs bu bt bo bx bw bp bz)∧w'.cell? ⟨U + 1,0,none⟩=some (H J rl)∧w'.cell? ⟨g,rl * 2 + 1,none⟩=some (.func (Fn.func td) #[] #[])) (fun _ k=> ⟨(k.au bg aV a6 bl bq bE bF bH),k.c c0,k.c ht⟩) fun bM aF=> ?_;refine ag 0 ?_;refine ag 1 ?_;refine ag 2 ?_;refine ag 3 ?_;refine ag 4 ?_;refine ag 5 ?_;refine ag 6 ?_;refine kX 7 11 (fun ai af=> ?_) fun ai af=> ?_
   ·go_simp;refine Calls.mono (mE.o _ eA.o) ?_;rintro gz bS ⟨q2,rfl,a7,aT,hk5,hqf⟩;obtain ⟨kK,vW⟩:∃ kK,kK=q2:=⟨_,rfl⟩;rw [←vW] at a7 aT hqf;have zA:=C vW;obtain ⟨cK,cL,cM,cN,cD,cE,cF,cG,cI,cH,cu,cJ⟩:=q2;simp only [MRe.val];have Dl:=C (show MRe.ab (.node cK cL cM cN cD cE cF cG cI cH cu cJ)=pV.getD .nil by rw [←zA.o];exact a7);have A9:=C (show MRe.aK bS (.node cK cL cM cN cD cE cF cG cI cH cu cJ) by rw [←zA.o];exact aT);have dr:=C (eA.o.trans hk5);have eS:=C (dr.o.trans (I.a1 bS cO));clear a7 aT hk5 hqf vW;refine af.out _ _ (bM.o _ dr.o) fun aF=> ?_;clear af ai;try go_frame
    refine ag 8 ?_;refine ag 9 ?_;refine ag 10 ?_;refine bh 11 fun ai af=> ?_;go_simp;refine af.out _ _ (bM.o _ eS.o) fun aF=> ?_;clear af ai;try go_frame
    refine bh 12 fun ai af=> ?_;refine wp_store_row 26 (.tmp 10) (.tmp 51) rfl bS.heap.size #[H J cK,M cL cN.length cM,M cD cF.length cE,H J cG,H J cI,H J cH,H J cu,F cJ] rfl rfl 26 #[H J 0,M none 0 0,M none 0 0,H J 0,H J 0,H J 0,H J 0,F false] (heap_alloc_new bS _) mB rfl (wk _ _ _ _ _ _ _ _ _ _ _ _) ?_;have j6:=Xn (W0:=ak) (heap_alloc_new bS _) eS.o dr.o.size (A9.o.ah (I.a1 bS _)) Dl.o (fun b ad=> by have:=A9.o.fi b ad;omega);obtain ⟨ta,eL,cY,h1,h2,h3,h4⟩:=j6;rw [←cY];have jc:=C (And.intro h1 (And.intro h2 (And.intro h3 h4)));refine af.out _ _ ⟨(h3.au bg aV a6 bl bq bE bF bH),h3.c c0,h3.c ht⟩ (fun aF=> ?_);clear af ai cY h1 h2 h3 h4;try go_frame
    refine ag 13 ?_;refine dR ?_;go_wp2;go_meet;exact ⟨bS.heap.size,ta,eL,rfl,rfl,rfl,jc.o.1,jc.o.2.1,jc.o.2.2.1,jc.o.2.2.2⟩
   ·go_simp;have eS:=C (eA.o.alloc cO);refine af.out _ _ (bM.o _ eS.o) fun aF=> ?_;clear af ai;try go_frame
    refine bh 7 fun ai af=> ?_;go_simp;refine Calls.mono (mE.o _ eS.o) ?_;rintro gz bS ⟨q2,rfl,a7,aT,hk5,hqf⟩;obtain ⟨kK,vW⟩:∃ kK,kK=q2:=⟨_,rfl⟩;rw [←vW] at a7 aT hqf;have zA:=C vW;obtain ⟨cK,cL,cM,cN,cD,cE,cF,cG,cI,cH,cu,cJ⟩:=q2;simp only [MRe.val];have Dl:=C (show MRe.ab (.node cK cL cM cN cD cE cF cG cI cH cu cJ)=pV.getD .nil by rw [←zA.o];exact a7);have A9:=C (show MRe.aK bS (.node cK cL cM cN cD cE cF cG cI cH cu cJ) by rw [←zA.o];exact aT);have dr:=C (eS.o.trans hk5);have oE:=hk5.heap (heap_alloc_new ak.drew cO) (by simp);have oE:bS.heap[ak.heap.size]? =some cO:=oE;have uG:=C oE;have Q1:=C (show ∀ b∈MRe.aw (.node cK cL cM cN cD cE cF cG cI cH cu cJ),b≠ak.heap.size from fun b ad=> by
     rw [←zA.o] at ad
     rcases hqf b ad with h | h
     ·have h0:=eU.o b (by rw [dt.o];exact h);omega
     ·have h:ak.heap.size + 1≤b:=by simpa using h
      omega)
    clear a7 aT hk5 hqf vW oE;refine af.out _ _ (bM.o _ dr.o) fun aF=> ?_;clear af ai;try go_frame
    refine ag 8 ?_;refine ag 9 ?_;refine ag 10 ?_;refine bh 12 fun ai af=> ?_;refine wp_store_row 26 (.tmp 10) (.tmp 51) rfl ak.heap.size #[H J cK,M cL cN.length cM,M cD cF.length cE,H J cG,H J cI,H J cH,H J cu,F cJ] rfl rfl 26 #[H J 0,M none 0 0,M none 0 0,H J 0,H J 0,H J 0,H J 0,F false] uG.o mB rfl (wk _ _ _ _ _ _ _ _ _ _ _ _) ?_;have j6:=Xn (W0:=ak) uG.o dr.o (Nat.le_refl _) A9.o Dl.o Q1.o;obtain ⟨ta,eL,cY,h1,h2,h3,h4⟩:=j6;rw [←cY];have jc:=C (And.intro h1 (And.intro h2 (And.intro h3 h4)));refine af.out _ _ ⟨(h3.au bg aV a6 bl bq bE bF bH),h3.c c0,h3.c ht⟩ (fun aF=> ?_);clear af ai cY h1 h2 h3 h4;try go_frame
    refine ag 13 ?_;refine dR ?_;go_wp2;go_meet;exact ⟨ak.heap.size,ta,eL,rfl,rfl,rfl,jc.o.1,jc.o.2.1,jc.o.2.2.1,jc.o.2.2.2⟩
  case rest=>
   obtain ⟨Nz,kA,eu,rfl,rfl,rfl,a7,aT,i4,NZ⟩:=hcut;obtain ⟨pH,FW⟩:∃ pH,pH=kA:=⟨_,rfl⟩;rw [←FW] at a7 aT;have M6:=C FW;have Hf:=C a7;have Q3:=C aT;have kT:=C (dG.o.trans i4);have dx:=i4.au ar c1 c2 an av ay ax az;clear ar c1 c2 an av ay ax az;obtain ⟨ar,c1,c2,an,av,ay,ax,az⟩:=dx;replace au:=i4.c au;replace dg:=i4.c dg;replace cT:=i4.c cT;obtain ⟨jS,jT,jU,jV,jL,jM,jN,jO,jQ,jP,jg,jR⟩:=kA;have aeS:=C (show eu.heap[Nz]? =some (bf jS jT jV jU jL jN jM jO jQ jP jg jR) from NZ);clear a7 aT i4 NZ FW bg aV a6 bl bq bE bF bH c0 ht he iC hB mE
   cases pV with
   | none=>
    simp only [Option.isSome_none];have ga:=C (show R=(10,none) by rw [sE.o];rfl);have ho:=C (pe (kT.o.h ba.o) (H J 0) (M none 0 0) (M none 0 0) (H J 0) (H J 0) (H J 0) (H J 0) (F false) (H J 0) (F false));have fZ:=C ((aH.o.trans kT.o).cn (pf eu (U + 1 + 1) (H J 0) (M none 0 0) (M none 0 0) (H J 0) (H J 0) (H J 0) (H J 0) (F false) (H J 0) (F false)) (by intro x hx;simp at hx;subst hx;exact .inr (by have:=aB.o;omega)));obtain ⟨z0,z1,z2,z3,z4,z5,b9,cc,qf,z9,cj⟩:=fR (kT.o.h ba.o);go_wp2;refine bodyPost_ret (qb rfl _ _ (U + 1 + 1) 28 #[H J 0,M none 0 0,M none 0 0,H J 0,H J 0,H J 0,H J 0,F false,H J 0,F false] (0,0) _ rfl ho.o Tryz.underlying28 rfl kO) rfl ?_;exact n3.dL (by rw [ga.o]) (by rw [ga.o];rfl) fZ.o
   | some y=>
    simp only [Option.isSome_some];obtain ⟨ep,aJ,cP,eM,eF,eN,eO,eP⟩:=eR aeS.o;have nB:=wE.o eu kT.o pH Q3.o (by have:=fY.o;omega) (by have h:pH.ab=y:=Hf.o;rw [h];exact yq.o y rfl);rw [show pH.ab=y from Hf.o,M6.o] at nB;have nB:=C nB;have yu:=C (show R=if (sr T cp ru path y).isSome then (0,sr T cp ru path y) else (4,none) from sE.o);obtain ⟨P,gm⟩:∃ P,P=sr T cp ru path y:=⟨_,rfl⟩;rw [←gm] at nB yu;clear gm sE wE;go_wp2_with fail
    refine Calls.mono nB.o ?_;rintro e gW ⟨pa,Hv,IB,rfl,a7,iA,iF,aT,gX,hqf⟩;have eV:=C (kT.o.trans gX);obtain ⟨Iy,TA⟩:∃ Iy,Iy=pa:=⟨_,rfl⟩;rw [←TA] at a7 aT hqf;have VW:=C (show ∀ b∈Iy.aw,U + 1 + 1 < b from fun b ad=> by have:=hqf b ad;have:=lt_of_block (kT.o.h ba.o);omega);have ag1:=C TA;have ag5:=C a7;have ag4:=C aT;have tJ:=C iA;have G6:=C iF;obtain ⟨qQ,qR,qS,hE,qH,qI,qJ,qK,qM,qL,o8,qN⟩:=pa;simp only [fV,MRe.row,List.cons_append,List.nil_append];clear a7 iA iF aT gX TA hqf ep aJ cP eM eF eN eO eP ar c1 c2 an av ay ax az au dg cT nB;go_upto_region 14 with fail
    obtain ⟨aA,c5⟩:∃ aA,aA=gW.alloc (.cells #[H J qQ,M qR hE.length qS,M qH qJ.length qI,H J qK,H J qM,H J qL,H J o8,F qN,H J Hv,F IB] 28):=⟨_,rfl⟩;obtain ⟨gS,sR⟩:∃ gS,gS=gW.heap.size:=⟨_,rfl⟩;have eZ:I [] gW aA:=by rw [c5];exact I.a1 _ _
    have Cs:aA.heap[gS]? =some (.cells #[H J qQ,M qR hE.length qS,M qH qJ.length qI,H J qK,H J qM,H J qL,H J o8,F qN,H J Hv,F IB] 28 (0,0)):=by rw [c5,sR];exact heap_alloc_new gW _
    have Mz:=C Cs;rw [←c5,←sR];have aZ:=C (eV.o.trans eZ);have ag6:=C (ag4.o.ah eZ);have ape:=C (show U + 1 + 1 < gW.heap.size from lt_of_block (eV.o.h ba.o));clear c5 sR eZ Cs
    cases P with
    | none=>
     simp only [Option.isSome_none];have ga:=C (show R=(4,none) by rw [yu.o];rfl);have ho:=C (pe (aZ.o.h ba.o) (H J 0) (M none 0 0) (M none 0 0) (H J 0) (H J 0) (H J 0) (H J 0) (F false) (H J 0) (F false));have fZ:=C ((aH.o.trans aZ.o).cn (pf aA (U + 1 + 1) (H J 0) (M none 0 0) (M none 0 0) (H J 0) (H J 0) (H J 0) (H J 0) (F false) (H J 0) (F false)) (by intro x hx;simp at hx;subst hx;exact .inr (by have:=aB.o;omega)));obtain ⟨z0,z1,z2,z3,z4,z5,b9,cc,qf,z9,cj⟩:=fR (aZ.o.h ba.o);go_wp2;refine bodyPost_ret (qb rfl _ _ (U + 1 + 1) 28 #[H J 0,M none 0 0,M none 0 0,H J 0,H J 0,H J 0,H J 0,F false,H J 0,F false] (0,0) _ rfl ho.o Tryz.underlying28 rfl kO) rfl ?_;exact n3.dL (by rw [ga.o]) (by rw [ga.o];rfl) fZ.o
    | some z=>
     simp only [Option.isSome_some];have iA:=tJ.o;have iF:=G6.o;rw [Option.isSome_some,if_pos rfl] at iA;rw [Option.isSome_some,Bool.true_and] at iF;replace iA:=iA.symm;replace iF:=iF.symm;subst iA;subst iF;have oN:=C (show R=(0,some z) from yu.o);obtain ⟨bg,aV,a6,bl,bq,bE,bF,bH,jz,jA,tp⟩:=fR Mz.o;have ho:=C (pe (aZ.o.h ba.o) (H J qQ) (M qR hE.length qS) (M qH qJ.length qI) (H J qK) (H J qM) (H J qL) (H J o8) (F qN) (H J cp) (F ru));have c3:=pf aA (U + 1 + 1) (H J qQ) (M qR hE.length qS) (M qH qJ.length qI) (H J qK) (H J qM) (H J qL) (H J o8) (F qN) (H J cp) (F ru);have fZ:=C ((aH.o.trans aZ.o).cn c3 (by intro x hx;simp at hx;subst hx;exact .inr (by have:=aB.o;omega)));have Jo:=C (ag6.o.bG c3 fun b ad=> by have:=VW.o b ad;simp;omega);obtain ⟨z0,z1,z2,z3,z4,z5,b9,cc,qf,z9,cj⟩:=fR (aZ.o.h ba.o);clear c3;go_wp2;refine bodyPost_ret (qb rfl _ _ (U + 1 + 1) 28 #[H J qQ,M qR hE.length qS,M qH qJ.length qI,H J qK,H J qM,H J qL,H J o8,F qN,H J cp,F ru] (0,0) _ rfl ho.o Tryz.underlying28 rfl kO) rfl ?_;exact n3.iI Iy (by rw [oN.o,show Iy.ab=z from ag5.o]) (by rw [oN.o,ag1.o];rfl) Jo.o fZ.o (fun b ad=> by have:=VW.o b ad;have:=aB.o;omega)
structure ei where
 En:Int
 bP:Option Addr
 path:List Int
 pc:Nat
def mH (rows:List ei):List Value:=rows.flatMap fun r=> [H J r.En,M r.bP r.path.length r.pc]
theorem R3 (rows:List ei):(mH rows).length=rows.length * 2:=by
 induction rows with
 | nil=> rfl
 | cons r rows ih=> simp only [mH,List.flatMap_cons,List.length_append,List.length_cons,List.length_nil] at ih ⊢;omega
theorem XL (rows:List ei):∀ (k:Nat) (h:k < rows.length),(mH rows)[k * 2]? =some (H J rows[k].En)∧(mH rows)[k * 2 + 1]? =some (M rows[k].bP rows[k].path.length rows[k].pc):=by
 induction rows with
 | nil=> intro k h;simp at h
 | cons r rows ih=>
  intro k h
  cases k with
  | zero=> simp [mH]
  | succ k=>
   have:=ih k (by simpa using h)
   have e:mH (r::rows)=[H J r.En,M r.bP r.path.length r.pc] ++ mH rows:=by simp [mH]
   have aV:(k + 1) * 2=k * 2 + 2:=by omega
   have a6:(k + 1) * 2 + 1=(k * 2 + 1) + 2:=by omega
   rw [e,aV,show k * 2 + 2 + 1=(k * 2 + 1) + 2 by omega]
   simpa using this
theorem R2 (a b:List ei):mH (a ++ b)=mH a ++ mH b:=by simp [mH]
structure tj (w:World) (e:Nat) (a:Option Nat) (c:Nat) (rows:List ei):Prop where
 iJ:cr w e 2 a rows.length c (mH rows)
 kz:∀ r∈rows,hr w r.bP r.path
theorem tj.kJ {w w':World} {e:Nat} {a:Option Nat} {c:Nat} {rows:List ei} (h:tj w e a c rows) (k:I [] w w'):tj w' e a c rows:=
 ⟨h.iJ.ah k (by simp),fun r aO=> (h.kz r aO).bG k (fun _ _=> by simp)⟩
theorem tj.cells {w:World} {e:Nat} {g:Nat} {c:Nat} {rows:List ei} (h:tj w e (some g) c rows) (k:Nat) (hk:k < rows.length):
  w.cell? ⟨g,k * 2,none⟩=some (H J rows[k].En)∧w.cell? ⟨g,k * 2 + 1,none⟩=some (M rows[k].bP rows[k].path.length rows[k].pc):=by
 have hl:=R3 rows;obtain ⟨h1,h2⟩:=XL rows k hk;obtain ⟨i1,aV⟩:=List.getElem?_eq_some_iff.1 h1;obtain ⟨i2,a6⟩:=List.getElem?_eq_some_iff.1 h2;rw [h.iJ.cell _ i1,h.iJ.cell _ i2,aV,a6];exact ⟨rfl,rfl⟩
theorem abi:(Tryz.prog.info? 61).map (fun i=> (i.zero,i.size,i.bytes))=some (some (.agg #[H J 0,M none 0 0]),2,32):=by kernel_rfl
theorem GD:(Tryz.prog.info? 61).map (·.size)=some 2:=by kernel_rfl
def ei.s (r:ei):Int × List Int:=(r.En,r.path)
def L2 (t:Tree) (cp:Int) (ru:Bool) (p:List Int):Option Tree→Bool
 | none=> false
 | some y=> (sr t cp ru p y).isSome
def CL (t:Tree) (cp:Int) (ru:Bool) (p:List Int) (r:Nat):Bool:=
 match jW t p with
 | none=> false
 | some x=> L2 t cp ru p (rV r x)
def j1 (t:Tree) (cp:Int) (ru:Bool) (p:List Int):Nat→List (Int × List Int)
 | 0=> []
 | k + 1=> j1 t cp ru p k ++ if CL t cp ru p k then [((k:Int),p)] else []
def ug (t:Tree) (cp:Int) (ru:Bool):List (Int × List Int):=(ia t).flatMap fun p=> j1 t cp ru p 17
def wK (W:World) (e lo:Nat) (a:Option Nat) (c:Nat) (rows:List ei):Prop:=
 tj W e a c rows∧(∀ g,a=some g→lo≤g)∧∀ r∈rows,∀ aX,r.bP=some aX→aX.block < W.heap.size∧some aX.block≠a
theorem wK.ah {W wO:World} {e lo:Nat} {a:Option Nat} {c:Nat} {rows:List ei} (h:wK W e lo a c rows) (k:I [] W wO):wK wO e lo a c rows:=
 ⟨h.1.kJ k,h.2.1,fun r aO aX dC=> ⟨Nat.lt_of_lt_of_le (h.2.2 r aO aX dC).1 k.size,(h.2.2 r aO aX dC).2⟩⟩
theorem wK.push {W wO:World} {e lo:Nat} {a:Option Nat} {c c' g:Nat} {rows:List ei} {r:ei} (h:wK W e lo a c rows) (kH:lo≤W.heap.size) (k:I a.toList W wO) (hg:a=some g∨W.heap.size≤g) (hs:cr wO e 2 (some g) (rows.length + 1) c' (mH rows ++ [H J r.En,M r.bP r.path.length r.pc]))
  (aO:hr wO r.bP r.path) (hn:∀ aX,r.bP=some aX→aX.block < W.heap.size∧some aX.block≠a):wK wO e lo (some g) c' (rows ++ [r]):=by
 have hne:∀ b,b < W.heap.size→some b≠a→some b≠some g:=fun b h1 h2 h3=> by
  cases h3
  rcases hg with h | h
  ·exact h2 h.symm
  ·omega
 refine ⟨⟨by rw [R2,List.length_append];exact hs,fun x hx=> ?_⟩,fun y hy=> ?_,fun x hx aX dC=> ?_⟩
 ·rcases List.mem_append.1 hx with hx | hx
  ·exact (h.1.kz x hx).bG k (fun aX dC hm=> (h.2.2 x hx aX dC).2 (by simpa using (show some aX.block=a from (by simpa using hm:a=some aX.block).symm)))
  ·simp at hx;subst hx;exact aO
 ·cases hy
  rcases hg with h1 | h1
  ·exact h.2.1 g h1
  ·omega
 ·rcases List.mem_append.1 hx with hx | hx
  ·exact ⟨Nat.lt_of_lt_of_le (h.2.2 x hx aX dC).1 k.size,hne _ (h.2.2 x hx aX dC).1 (h.2.2 x hx aX dC).2⟩
  ·simp at hx;subst hx;exact ⟨Nat.lt_of_lt_of_le (hn aX dC).1 k.size,hne _ (hn aX dC).1 (hn aX dC).2⟩
theorem ei.abR (rows:List ei) (r:ei):(rows ++ [r]).map ei.s=rows.map ei.s ++ [(r.En,r.path)]:=by simp [ei.s]
def wL (u v:Nat):Prop:=∀ i,u.testBit i=true→(v ||| 8).testBit i=true
theorem wL.refl (u:Nat):wL u u:=fun i h=> by simp only [Nat.testBit_or,h,Bool.true_or]
theorem wL.zero (v:Nat):wL 0 v:=fun i h=> by simp at h
theorem UZ {t:Tree} {cp:Int} {ru:Bool} {p:List Int} {s:Int × List Int}:∀ k,s∈j1 t cp ru p k→∃ r < k,s=((r:Int),p)∧CL t cp ru p r=true:=by
 intro k
 induction k with
 | zero=> intro h;simp [j1] at h
 | succ k ih=>
  intro h;rw [j1,List.mem_append] at h
  rcases h with h | h
  ·obtain ⟨r,aO,h1,h2⟩:=ih h;exact ⟨r,by omega,h1,h2⟩
  ·split at h
   ·rename_i hk
    simp at h;exact ⟨k,by omega,h,hk⟩
   ·simp at h
end Go.Proofs.YtjnlkjlbejelgaaGreat
