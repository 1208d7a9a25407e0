/- Part of the proof. No condition: every lemma says its own. -/
import Derived.Test.YtjnlkjlbejelgaaGreatRSPbb
namespace Go.Proofs.YtjnlkjlbejelgaaGreat
open Go.RowKit
open Go.Value renaming int→H,slice→M,bool→F
open Go.IntKind renaming i64→J
open Go.Sort
set_option maxRecDepth 100000
set_option maxHeartbeats 16000000
def pb (cp:Int) (ru:Bool):Tree→List (Int × List Int)→Int × Option Tree
 | t,[]=> (0,some t)
 | t,s::r=> match (j9 t cp ru s.1 s.2).2 with
  | some jl=> pb cp ru jl r
  | none=> ((j9 t cp ru s.1 s.2).1,none)
def rk (t:Tree) (cp:Int) (ru:Bool) (l:List (Int × List Int)):Int × Option Tree:=
 if gZ t cp ru=0 then pb cp ru t l else (gZ t cp ru,none)
theorem adD (t:Tree) (cp:Int) (ru:Bool) (r:Int) (path:List Int):((j9 t cp ru r path).1=0∧∃ x,(j9 t cp ru r path).2=some x)∨((j9 t cp ru r path).1≠0∧(j9 t cp ru r path).2=none):=by
 unfold j9
 split
 ·split
  ·cases jW t path with
   | none=> right;simp [zh]
   | some x=>
    simp only [zh]
    cases rV r.toNat x with
    | none=> right;simp [x9]
    | some y=>
     simp only [x9]
     cases sr t cp ru path y with
     | none=> right;simp
     | some z=> left;simp
  ·right;simp
 ·right;simp_all
theorem Xm {W0 w3:World} {g:Nat} {T:Tree} {op sa sc set ka kc kids mn mx mode n neg} {cp:Int} {ru:Bool} (aW:w3.heap[g]? =some hN) (hk:I [] W0 w3) (hg:W0.heap.size≤g) (Gx:MRe.aK w3 (.node op sa sc set ka kc kids mn mx mode n neg)) (ht:MRe.ab (.node op sa sc set ka kc kids mn mx mode n neg)=T) (hfr:∀ b∈(MRe.aw (.node op sa sc set ka kc kids mn mx mode n neg)),W0.heap.size≤b) (hne:∀ b∈(MRe.aw (.node op sa sc set ka kc kids mn mx mode n neg)),b≠g):
  ∃ (ae:MRe) (ak:World),ak=w3.setRow g #[H J op,M sa set.length sc,M ka kids.length kc,H J mn,H J mx,H J mode,H J n,F neg,H J cp,F ru]∧ae.ab=T∧ae.aK ak∧I [] W0 ak∧ak.heap[g]? =some (.cells (ae.row ++ [H J cp,Value.bool ru]).toArray 28 (0,0))∧(∀ b∈ae.aw,b≠g)∧∀ b∈ae.aw,W0.heap.size≤b:=by
 have cU:I [g] w3 (w3.setRow g #[H J op,M sa set.length sc,M ka kids.length kc,H J mn,H J mx,H J mode,H J n,F neg,H J cp,F ru]):=(I.refl [g] w3).setRow (.inl (by simp)) _;exact ⟨.node op sa sc set ka kc kids mn mx mode n neg,_,rfl,ht,Gx.bG cU fun b ad=> by have:=hne b ad;simp;exact this,hk.cn cU (by intro x hx;simp at hx;subst hx;exact .inr hg),setRow_heap w3 g _ _ _ _ aW,hne,hfr⟩
theorem Pd (m:MRe) (cp:Int) (ru:Bool) (a:Option Nat) (c:Nat) (rows:List ei) (w:World) (aj:m.aK w) (hs:tj w 61 a c rows) (hl:∀ r∈rows,r.path.length≤1000000):
  Calls Tryz.prog 19 #[fV m cp ru,de a rows.length c] w (n3 w cp ru (H J (rk m.ab cp ru (rows.map ei.s)).1) (rk m.ab cp ru (rows.map ei.s)).2):=by
 obtain ⟨U,cd⟩:∃ U,U=w.heap.size:=⟨_,rfl⟩;obtain ⟨aE,cz⟩:∃ aE,aE=(w.alloc (.cells (m.row ++ [H J cp,Value.bool ru]).toArray 28)).alloc hN:=⟨_,rfl⟩;have cq:I [] w aE:=by rw [cz];exact I.a2 _ _ _
 have gg:aE.heap[U]? =some (.cells (m.row ++ [H J cp,Value.bool ru]).toArray 28 (0,0)):=by rw [cz,cd];exact (I.a1 _ _).heap (heap_alloc_new w _) (by simp)
 have aW:aE.heap[U + 1]? =some hN:=by rw [cz,cd];exact heap_alloc2_new w _ _
 have en:=C (Nn m cp ru aE (aj.ah cq));have mD:=C (fun (W:World) (h:I [] aE W) (ad:m.ab.bm≤1000000)=> acT m W ((aj.ah cq).ah h) ad);obtain ⟨T,hT⟩:∃ T,T=m.ab:=⟨_,rfl⟩;obtain ⟨R,aY⟩:∃ R,R=rk m.ab cp ru (rows.map ei.s):=⟨_,rfl⟩;rw [←aY];rw [←hT] at aY en mD;unfold rk at aY;obtain ⟨ve,hve⟩:∃ v,v=gZ T cp ru:=⟨_,rfl⟩;have zr:=C (show ve=0→T.bm≤1000000 from fun h=> by have:=ya (hve ▸ h);omega);rw [←hve] at aY en;have aD:=C aY;have aB:=C cd;have aH:=C cq;have ba:=C aW;have vF:=C (hs.kJ cq);have jG:=C hl;have hn:rows.length≤9223372036854775807:=by
  cases a with
  | none=> have:=hs.iJ.2.1;omega
  | some g=> obtain ⟨_,cur,_,h1,h2,_⟩:=hs.iJ;unfold maxLen at h2;omega
 obtain ⟨op1,aM,aN,set1,aS,kc1,aq,mn1,aI,mode1,n1,aL⟩:=m;have c7:=C (show aE=(w.alloc (.cells #[H J op1,M aM set1.length aN,M aS aq.length kc1,H J mn1,H J aI,H J mode1,H J n1,F aL,H J cp,F ru] 28)).alloc hN from cz);simp only [MRe.val,fV,MRe.row,List.cons_append,List.nil_append] at en mD;obtain ⟨ar,c1,c2,an,av,ay,ax,az,au,dg,fh⟩:=fR (show aE.heap[U]? =some (.cells #[H J op1,M aM set1.length aN,M aS aq.length kc1,H J mn1,H J aI,H J mode1,H J n1,F aL,H J cp,F ru] 28 (0,0)) from gg)
 show Calls Tryz.prog 19 #[.agg #[H J op1,M aM set1.length aN,M aS aq.length kc1,H J mn1,H J aI,H J mode1,H J n1,F aL,H J cp,F ru],de a rows.length c] w _
 simp only [de];clear cd cz cq gg aW aY aj hs fh hT hve hl;go_enter Tryz.func19,Tryz.ntmps19
 go_upto_region 1 with fail
 rw [←c7.o,←aB.o];go_wp2_with fail
 refine Calls.mono en.o ?_;rintro e w2 ⟨rfl,hk2⟩;have aU:=C hk2;have dx:=hk2.au ar c1 c2 an av ay ax az;clear ar c1 c2 an av ay ax az;obtain ⟨ar,c1,c2,an,av,ay,ax,az⟩:=dx;replace au:=hk2.c au;replace dg:=hk2.c dg;clear hk2 en
 by_cases da:ve=0
 rotate_left
 ·have Bt:(ve !=0)=true:=by simpa using da
  have ga:=C (show R=(ve,none) by rw [aD.o,if_neg da]);have Wp:=C (aU.o.h ba.o);have ho:=C (pe Wp.o (H J 0) (M none 0 0) (M none 0 0) (H J 0) (H J 0) (H J 0) (H J 0) (F false) (H J 0) (F false));have fZ:=C ((aH.o.trans aU.o).cn (pf w2 (U + 1) (H J 0) (M none 0 0) (M none 0 0) (H J 0) (H J 0) (H J 0) (H J 0) (F false) (H J 0) (F false)) (by intro x hx;simp at hx;subst hx;exact .inr (by have:=aB.o;omega)));obtain ⟨z0,z1,z2,z3,z4,z5,b9,cc,qf,z9,cj⟩:=fR Wp.o;go_wp2;refine bodyPost_ret (qb rfl _ _ (U + 1) 28 #[H J 0,M none 0 0,M none 0 0,H J 0,H J 0,H J 0,H J 0,F false,H J 0,F false] (0,0) _ rfl ho.o Tryz.underlying28 rfl kO) rfl ?_;exact n3.dL (by rw [ga.o]) (by rw [ga.o];rfl) fZ.o
 subst da;have cw:=C (aD.o.trans (if_pos rfl));clear aD;have fY:=C (zr.o rfl);go_upto_region 4 with fail
 go_cut [7] from 18 to 25 (fun lJ db=> ∃ (aG:Nat) (ae:MRe) (ak:World),lJ=.pointer (some ⟨aG,0,none⟩)∧ak=db∧ae.ab=T∧ae.aK ak∧I [] w2 ak∧ak.heap[aG]? =some (.cells (ae.row ++ [H J cp,Value.bool ru]).toArray 28 (0,0))∧(∀ b∈ae.aw,b≠aG)∧w2.heap.size≤aG∧(∀ b∈ae.aw,w2.heap.size≤b))
 case first=>
  have eA:=C ((I.refl [] w2).drew);refine rg (S:=fun w'=> (iK w' U op1 aM set1 aN aS aq kc1 mn1 aI mode1 n1 aL)∧w'.cell? ⟨U,8,none⟩=some (H J cp)∧w'.cell? ⟨U,9,none⟩=some (F ru)) (fun _ k=> ⟨(k.au ar c1 c2 an av ay ax az),k.c au,k.c dg⟩) fun bM aF=> ?_;refine ag 0 ?_;refine ag 1 ?_;refine ag 3 ?_;refine ag 4 ?_;refine ag 5 ?_;refine ag 6 ?_;refine kX 2 8 (fun ai af=> ?_) fun ai af=> ?_
  ·go_simp;refine Calls.mono (mD.o _ (aU.o.trans eA.o) fY.o) ?_;rintro e w3 ⟨ae,rfl,a7,aT,aP,hqf⟩;obtain ⟨q0,bN⟩:∃ q0,q0=ae:=⟨_,rfl⟩;rw [←bN] at a7 aT hqf;have dt:=C bN;obtain ⟨bA,bB,bC,bD,bs,bt,bu,bo,bx,bw,bp,bz⟩:=ae;have dK:=C (show MRe.ab (.node bA bB bC bD bs bt bu bo bx bw bp bz)=T by rw [←dt.o];exact a7);have dA:=C (show MRe.aK w3 (.node bA bB bC bD bs bt bu bo bx bw bp bz) by rw [←dt.o];exact aT);have et:=C (show ∀ b∈MRe.aw (.node bA bB bC bD bs bt bu bo bx bw bp bz),w2.heap.size≤b from fun b ad=> by rw [←dt.o] at ad;exact hqf b ad);have dr:=C (eA.o.trans aP);have eS:=C (dr.o.trans (I.a1 w3 hN));clear a7 aT aP hqf bN;refine af.out _ _ (bM.o _ dr.o) fun aF=> ?_;clear af ai;refine ag 7 ?_;refine bh 8 fun ai af=> ?_;go_simp;refine af.out _ _ (bM.o _ eS.o) fun aF=> ?_;clear af ai;try go_frame
   refine bh 9 fun ai af=> ?_;refine wp_store_row 28 (.tmp 7) (.tmp 25) rfl w3.heap.size #[H J bA,M bB bD.length bC,M bs bu.length bt,H J bo,H J bx,H J bw,H J bp,F bz,H J cp,F ru] rfl rfl 28 #[H J 0,M none 0 0,M none 0 0,H J 0,H J 0,H J 0,H J 0,F false,H J 0,F false] (heap_alloc_new w3 _) kO rfl (zb _ _ _ _ _ _ _ _ _ _ _ _ _ _) ?_;have j6:=Xm (W0:=w2) (cp:=cp) (ru:=ru) (heap_alloc_new w3 _) eS.o dr.o.size (dA.o.ah (I.a1 w3 _)) dK.o et.o (fun b ad=> by have:=dA.o.fi b ad;omega);obtain ⟨ta,eL,cY,h1,h2,h3,h4,h5,eW⟩:=j6;rw [←cY];have jc:=C (And.intro h1 (And.intro h2 (And.intro h3 (And.intro h4 (And.intro h5 eW)))));refine af.out _ _ ⟨(h3.au ar c1 c2 an av ay ax az),h3.c au,h3.c dg⟩ (fun aF=> ?_);clear af ai cY h1 h2 h3 h4 h5 eW;try go_frame
   refine dR ?_;go_wp2;go_meet;exact ⟨w3.heap.size,ta,eL,rfl,rfl,jc.o.1,jc.o.2.1,jc.o.2.2.1,jc.o.2.2.2.1,jc.o.2.2.2.2.1,dr.o.size,jc.o.2.2.2.2.2⟩
  ·go_simp;have eS:=C (eA.o.alloc hN);refine af.out _ _ (bM.o _ eS.o) fun aF=> ?_;clear af ai;try go_frame
   refine bh 2 fun ai af=> ?_;go_simp;refine Calls.mono (mD.o _ (aU.o.trans eS.o) fY.o) ?_;rintro e w3 ⟨ae,rfl,a7,aT,aP,hqf⟩;obtain ⟨q0,bN⟩:∃ q0,q0=ae:=⟨_,rfl⟩;rw [←bN] at a7 aT hqf;have dt:=C bN;obtain ⟨bA,bB,bC,bD,bs,bt,bu,bo,bx,bw,bp,bz⟩:=ae;have dK:=C (show MRe.ab (.node bA bB bC bD bs bt bu bo bx bw bp bz)=T by rw [←dt.o];exact a7);have dA:=C (show MRe.aK w3 (.node bA bB bC bD bs bt bu bo bx bw bp bz) by rw [←dt.o];exact aT);have et:=C (show ∀ b∈MRe.aw (.node bA bB bC bD bs bt bu bo bx bw bp bz),w2.heap.size + 1≤b from fun b ad=> by rw [←dt.o] at ad;have h:=hqf b ad;simpa using h);have dr:=C (eS.o.trans aP);have oE:=aP.heap (heap_alloc_new w2.drew hN) (by simp);have oE:w3.heap[w2.heap.size]? =some hN:=oE;have uG:=C oE;clear a7 aT aP hqf bN oE;refine af.out _ _ (bM.o _ dr.o) fun aF=> ?_;clear af ai;refine ag 7 ?_;refine bh 9 fun ai af=> ?_;refine wp_store_row 28 (.tmp 7) (.tmp 25) rfl w2.heap.size #[H J bA,M bB bD.length bC,M bs bu.length bt,H J bo,H J bx,H J bw,H J bp,F bz,H J cp,F ru] rfl rfl 28 #[H J 0,M none 0 0,M none 0 0,H J 0,H J 0,H J 0,H J 0,F false,H J 0,F false] uG.o kO rfl (zb _ _ _ _ _ _ _ _ _ _ _ _ _ _) ?_;have j6:=Xm (W0:=w2) (cp:=cp) (ru:=ru) uG.o dr.o (Nat.le_refl _) dA.o dK.o (fun b ad=> by have:=et.o b ad;omega) (fun b ad=> by have:=et.o b ad;omega);obtain ⟨ta,eL,cY,h1,h2,h3,h4,h5,eW⟩:=j6;rw [←cY];have jc:=C (And.intro h1 (And.intro h2 (And.intro h3 (And.intro h4 (And.intro h5 eW)))));refine af.out _ _ ⟨(h3.au ar c1 c2 an av ay ax az),h3.c au,h3.c dg⟩ (fun aF=> ?_);clear af ai cY h1 h2 h3 h4 h5 eW;try go_frame
   refine dR ?_;go_wp2;go_meet;exact ⟨w2.heap.size,ta,eL,rfl,rfl,jc.o.1,jc.o.2.1,jc.o.2.2.1,jc.o.2.2.2.1,jc.o.2.2.2.2.1,(Nat.le_refl _),jc.o.2.2.2.2.2⟩
 case rest=>
  obtain ⟨aG,ae,ak,rfl,rfl,a7,aT,dh,w7,hne,fP,hfr⟩:=hcut;have dG:=C (aU.o.trans dh);have fe:=C (show aE.heap.size≤aG from Nat.le_trans aU.o.size fP);have uC:=C (show U + 1 < aG by have:=lt_of_block ba.o;have:=fe.o;omega);have iP:=C (show ∀ b∈ae.aw,U + 1 < b∧b≠aG from fun b ad=> by have:=hfr b ad;have:=aU.o.size;have:=lt_of_block ba.o;exact ⟨by omega,hne b ad⟩);have r3:=C aT;have vw:=C w7;have qm:=C (show R=pb cp ru ae.ab ((rows.drop 0).map ei.s) by rw [a7,List.drop_zero];exact cw.o);clear a7 aT dh w7 hne fP hfr ar c1 c2 an av ay ax az au dg mD cw zr aU;go_wp2
  go_loopw [28] (fun i wr=> ∃ (k:Nat) (ae:MRe),k≤rows.length∧i=H J k∧ae.aK wr∧I [] aE wr∧wr.heap[aG]? =some (.cells (ae.row ++ [H J cp,Value.bool ru]).toArray 28 (0,0))∧(∀ b∈ae.aw,U + 1 < b∧b≠aG)∧R=pb cp ru ae.ab ((rows.drop k).map ei.s)) (fun i _=> rows.length - (intOf i).toNat)
  case atStart=> exact ⟨0,ae,Nat.zero_le _,rfl,r3.o,dG.o,vw.o,iP.o,qm.o⟩
  case round=>
   clear r3 dG vw iP qm;obtain ⟨k,m2,hk,rfl,aT,pv,w7,hfr,ue⟩:=hrel;have kl:=C pv;have r3:=C aT;have vw:=C w7;have iP:=C hfr;have B1:=C (pv.h ba.o);clear aT pv w7 hfr
   by_cases aQ:k < rows.length
   ·cases a with
    | none=> exfalso;have h1:=vF.o.iJ.2;have h2:rows.length=0:=h1.1;omega
    | some gs=>
    simp only [Option.map_some];have hS:=vF.o.kJ kl.o;obtain ⟨d1,d2⟩:=hS.cells k aQ;have z6:(rows.drop k).map ei.s=rows[k].s::(rows.drop (k + 1)).map ei.s:=by rw [List.drop_eq_getElem_cons aQ];rfl
    have k1:=C (hS.kz rows[k] (List.getElem_mem aQ));have rz:=C (jG.o rows[k] (List.getElem_mem aQ));rw [z6] at ue
    generalize rows[k]=rw0 at *
    obtain ⟨iN,bP,path,pc⟩:=rw0;simp only at d1 d2 k1 rz;have qm:=C (show R=pb cp ru m2.ab ((iN,path)::(rows.drop (k + 1)).map ei.s) from ue);obtain ⟨rest,FY⟩:∃ rest,rest=(rows.drop (k + 1)).map ei.s:=⟨_,rfl⟩;rw [←FY] at qm;have Qz:=C FY;clear hS z6 ue FY;have gP:=C (fun (W:World) (h:I [] wr W)=> Pg m2 cp ru iN path bP pc W (r3.o.ah h) (k1.o.bG h (fun _ _=> by simp)) rz.o);obtain ⟨T2,tr⟩:∃ T2,T2=m2.ab:=⟨_,rfl⟩;rw [←tr] at gP qm;obtain ⟨op1,aM,aN,set1,aS,kc1,aq,mn1,aI,mode1,n1,aL⟩:=m2;simp only [fV,MRe.row,List.cons_append,List.nil_append,CV] at gP;obtain ⟨bg,aV,a6,bl,bq,bE,bF,bH,jz,jA,tp⟩:=fR (show wr.heap[aG]? =some (.cells #[H J op1,M aM set1.length aN,M aS aq.length kc1,H J mn1,H J aI,H J mode1,H J n1,F aL,H J cp,F ru] 28 (0,0)) from vw.o);have uD:=C (show wr.heap[aG]? =some (.cells #[H J op1,M aM set1.length aN,M aS aq.length kc1,H J mn1,H J aI,H J mode1,H J n1,F aL,H J cp,F ru] 28 (0,0)) from vw.o);clear tr tp vw r3 k1 rz;go_upto_region 8 with fail
    obtain ⟨aA,c5⟩:∃ aA,aA=wr.alloc (.cells #[H J iN,M bP path.length pc] 61):=⟨_,rfl⟩;obtain ⟨JK,Sx⟩:∃ JK,JK=wr.heap.size:=⟨_,rfl⟩;have eZ:I [] wr aA:=by rw [c5];exact I.a1 _ _
    have vZ:aA.heap[JK]? =some (.cells #[H J iN,M bP path.length pc] 61 (0,0)):=by rw [c5,Sx];exact heap_alloc_new wr _
    rw [←c5,←Sx];have aZ:=C eZ;have c0:aA.cell? ⟨JK,0,none⟩=some (H J iN):=by simp [World.cell?,vZ]
    have cT:aA.cell? ⟨JK,1,none⟩=some (M bP path.length pc):=by simp [World.cell?,vZ]
    have dx:=eZ.au bg aV a6 bl bq bE bF bH;clear bg aV a6 bl bq bE bF bH;obtain ⟨bg,aV,a6,bl,bq,bE,bF,bH⟩:=dx;replace jz:=eZ.c jz;replace jA:=eZ.c jA;clear c5 Sx eZ vZ d1 d2;go_wp2_with fail
    refine Calls.mono (gP.o _ aZ.o) ?_;rintro e bS ⟨kK,nH,nU,rfl,a7,iA,iF,aT,hk5,hqf⟩;obtain ⟨kA,vX⟩:∃ kA,kA=kK:=⟨_,rfl⟩;rw [←vX] at a7 aT hqf;have zB:=C vX;have dK:=C a7;have dA:=C aT;have tJ:=C iA;have G6:=C iF;have et:=C (show ∀ b∈kA.aw,U + 1 < b∧b≠aG from fun b ad=> by have h1:=hqf b ad;have h2:=aZ.o.size;have h3:=lt_of_block uD.o;have h4:=uC.o;exact ⟨by omega,by omega⟩);have dr:=C (aZ.o.trans hk5);obtain ⟨bA,bB,bC,bD,bs,bt,bu,bo,bx,bw,bp,bz⟩:=kK;simp only [fV,MRe.row,List.cons_append,List.nil_append];clear a7 iA iF aT hk5 vX hqf bg aV a6 bl bq bE bF bH jz jA c0 cT aZ gP;have DM:=adD T2 cp ru iN path;have BX:=C qm.o;unfold pb at BX;obtain ⟨mu,hPE⟩:∃ mu,mu=(j9 T2 cp ru iN path).1:=⟨_,rfl⟩;obtain ⟨kU,sS⟩:∃ kU,kU=(j9 T2 cp ru iN path).2:=⟨_,rfl⟩;simp only [←hPE,←sS] at DM BX dK tJ G6;rw [←hPE];clear hPE sS qm;have Ja:=C DM;clear DM;go_upto_region 9 with fail
    obtain ⟨eu,nM⟩:∃ eu,eu=bS.alloc (.cells #[H J bA,M bB bD.length bC,M bs bu.length bt,H J bo,H J bx,H J bw,H J bp,F bz,H J nH,F nU] 28):=⟨_,rfl⟩;obtain ⟨Q6,Sw⟩:∃ Q6,Q6=bS.heap.size:=⟨_,rfl⟩;have i4:I [] bS eu:=by rw [nM];exact I.a1 _ _
    have xb:eu.heap[Q6]? =some (.cells #[H J bA,M bB bD.length bC,M bs bu.length bt,H J bo,H J bx,H J bw,H J bp,F bz,H J nH,F nU] 28 (0,0)):=by rw [nM,Sw];exact heap_alloc_new bS _
    rw [←nM,←Sw];have kT:=C (dr.o.trans i4);have M4:=C (kl.o.trans kT.o);have MK:=C (dA.o.ah i4);have QB:=C xb;clear nM Sw i4 xb dA dr
    by_cases da:mu=0
    ·have qG:∃ x,kU=some x:=by rcases Ja.o with h | h;exact h.2;exact absurd da h.1
     obtain ⟨x,rfl⟩:=qG;subst da;have iA:=tJ.o;have iF:=G6.o;rw [Option.isSome_some,if_pos rfl] at iA;rw [Option.isSome_some,Bool.true_and] at iF;replace iA:=iA.symm;replace iF:=iF.symm;subst iA;subst iF;obtain ⟨bg,aV,a6,bl,bq,bE,bF,bH,jz,jA,tp⟩:=fR QB.o;obtain ⟨g0,g1,g2,g3,kx,k4,dz,kE,fr,vQ,Ci⟩:=fR (kT.o.h uD.o);have c3:=pf eu aG (H J bA) (M bB bD.length bC) (M bs bu.length bt) (H J bo) (H J bx) (H J bw) (H J bp) (F bz) (H J cp) (F ru);have fZ:=C (M4.o.cn c3 (by intro x hx;simp at hx;subst hx;exact .inr fe.o));have ho:=C (pe (kT.o.h uD.o) (H J bA) (M bB bD.length bC) (M bs bu.length bt) (H J bo) (H J bx) (H J bw) (H J bp) (F bz) (H J cp) (F ru));have Jp:=C (MK.o.bG c3 fun b ad=> by have:=(et.o b ad).2;simpa using this);clear c3;go_wp2;go_roundw
     case rel=> exact ⟨k + 1,kA,by omega,by go_num,Jp.o,fZ.o,by rw [zB.o];exact ho.o,et.o,by rw [show kA.ab=x from dK.o,←Qz.o];exact BX.o⟩
     case measure=> simp [intOf];omega
    ·have Bt:(mu !=0)=true:=by simpa using da
     have FM:kU=none:=by rcases Ja.o with h | h;exact absurd h.1 da;exact h.2
     subst FM;have ga:=C (show R=(mu,none) from BX.o);have ho:=C (pe (M4.o.h ba.o) (H J 0) (M none 0 0) (M none 0 0) (H J 0) (H J 0) (H J 0) (H J 0) (F false) (H J 0) (F false));have fZ:=C ((aH.o.trans M4.o).cn (pf eu (U + 1) (H J 0) (M none 0 0) (M none 0 0) (H J 0) (H J 0) (H J 0) (H J 0) (F false) (H J 0) (F false)) (by intro x hx;simp at hx;subst hx;exact .inr (by have:=aB.o;omega)));obtain ⟨z0,z1,z2,z3,z4,z5,b9,cc,qf,z9,cj⟩:=fR (M4.o.h ba.o);go_wp2;refine bodyPost_ret (qb rfl _ _ (U + 1) 28 #[H J 0,M none 0 0,M none 0 0,H J 0,H J 0,H J 0,H J 0,F false,H J 0,F false] (0,0) _ rfl ho.o Tryz.underlying28 rfl kO) rfl ?_;exact n3.dL (by rw [ga.o]) (by rw [ga.o];rfl) fZ.o
   ·obtain rfl:k=rows.length:=by omega
    rw [List.drop_length] at ue;have qm:=C (show R=(0,some m2.ab) from ue);obtain ⟨kA,vX⟩:∃ kA,kA=m2:=⟨_,rfl⟩;rw [←vX] at qm iP r3;have zB:=C vX;obtain ⟨bA,bB,bC,bD,bs,bt,bu,bo,bx,bw,bp,bz⟩:=m2;have uD:=C (show wr.heap[aG]? =some (.cells #[H J bA,M bB bD.length bC,M bs bu.length bt,H J bo,H J bx,H J bw,H J bp,F bz,H J cp,F ru] 28 (0,0)) from vw.o);clear ue vX vw;obtain ⟨bg,aV,a6,bl,bq,bE,bF,bH,jz,jA,tp⟩:=fR uD.o;have ho:=C (pe B1.o (H J bA) (M bB bD.length bC) (M bs bu.length bt) (H J bo) (H J bx) (H J bw) (H J bp) (F bz) (H J cp) (F ru));have c3:=pf wr (U + 1) (H J bA) (M bB bD.length bC) (M bs bu.length bt) (H J bo) (H J bx) (H J bw) (H J bp) (F bz) (H J cp) (F ru);have fZ:=C ((aH.o.trans kl.o).cn c3 (by intro x hx;simp at hx;subst hx;exact .inr (by have:=aB.o;omega)));have Jp:=C (r3.o.bG c3 fun b ad=> by have:=(iP.o b ad).1;simp;omega);obtain ⟨z0,z1,z2,z3,z4,z5,b9,cc,qf,z9,cj⟩:=fR B1.o;clear c3;go_wp2;refine bodyPost_ret (qb rfl _ _ (U + 1) 28 #[H J bA,M bB bD.length bC,M bs bu.length bt,H J bo,H J bx,H J bw,H J bp,F bz,H J cp,F ru] (0,0) _ rfl ho.o Tryz.underlying28 rfl kO) rfl ?_;exact n3.iI kA (by rw [qm.o]) (by rw [qm.o,zB.o];rfl) Jp.o fZ.o (fun b ad=> by have:=(iP.o b ad).1;have:=aB.o;omega)
theorem U0 {t:Tree} {cp:Int} {ru:Bool} {s:Int × List Int} (da:gZ t cp ru=0) (h:s∈ug t cp ru):∃ jl,j9 t cp ru s.1 s.2=(0,some jl)∧gZ jl cp ru=0∧s.2.length≤1000000:=by
 obtain ⟨p,hp,hs⟩:=List.mem_flatMap.1 h;obtain ⟨r,aO,rfl,cm⟩:=UZ _ hs;have hl:=(x5 t).2 p hp;have ad:=(ya da).2.1;unfold CL at cm
 cases b8:jW t p with
 | none=> rw [b8] at cm;cases cm
 | some x=>
  rw [b8] at cm;simp only at cm
  cases hy:rV r x with
  | none=> rw [hy] at cm;cases cm
  | some y=>
   rw [hy] at cm;simp only [L2] at cm;obtain ⟨z,aW⟩:=Option.isSome_iff_exists.1 cm;refine ⟨z,?_,?_,by simp only;omega⟩
   ·simp only [j9];rw [if_pos da,if_pos (by omega),b8];simp only [zh,Int.toNat_natCast,hy,x9];rw [if_pos cm,aW]
   ·unfold sr at aW
    split at aW
    ·cases aW
    ·split at aW
     ·rename_i h1;cases aW;exact h1
     ·cases aW
theorem n3.CU {w:World} {cp:Int} {ru:Bool} {v:Value} {t:Tree} {e:Ending} {w':World} (h:n3 w cp ru v (some t) e w'):∃ m:MRe,e=.returned (.tuple #[fV m cp ru,v])∧m.ab=t∧m.aK w'∧I [] w w'∧∀ b∈m.aw,w.heap.size≤b:=by
 obtain ⟨m,cp',ru',he,ht,hc,aO,ds,hk,hf⟩:=h;rw [Option.isSome_some,if_pos rfl] at hc;rw [Option.isSome_some,Bool.true_and] at aO;subst hc;subst aO;exact ⟨m,he,ht,ds,hk,hf⟩
theorem pL.CU {w:World} {src:List Nat} {Dw:Int} {t:Tree} {e:Ending} {w':World} (h:pL w src Dw (some t) e w'):∃ m:MRe,e=.returned (.tuple #[m.val,H J 0])∧m.ab=t∧m.aK w'∧I [] w w'∧du w.heap.size src m.aw:=by
 obtain ⟨m,he,ht,ds,hk,hf⟩:=h;rw [Option.isSome_some,if_pos rfl] at he;exact ⟨m,he,ht,ds,hk,hf⟩
end Go.Proofs.YtjnlkjlbejelgaaGreat
