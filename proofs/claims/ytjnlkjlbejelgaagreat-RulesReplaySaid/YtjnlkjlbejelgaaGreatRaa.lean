/- Part of the proof. No condition: every lemma says its own. -/
import Derived.Test.YtjnlkjlbejelgaaGreatRSaj
import Derived.Test.YtjnlkjlbejelgaaGreatRPaa
namespace Go.Proofs.YtjnlkjlbejelgaaGreat
open Go.RowKit
open Go.Value renaming int→H,slice→M,bool→F
open Go.IntKind renaming i64→J
set_option maxRecDepth 100000
set_option maxHeartbeats 16000000
theorem adJ (a:Option Nat) (c:Nat) (rows:List ei) (w:World) (hs:tj w 52 a c rows) (hn:rows.length≤1000):
  Calls Tryz.prog 20 #[de a rows.length c] w fun e w'=>
   ∃ dZ c',e=.returned (de dZ rows.length c')∧tj w' 61 dZ c' rows∧I [] w w':=by
 obtain ⟨gq,hi,dQ,fj,eI⟩:=info_parts abi;have gH:=C hi;have gI:=C dQ;have gJ:=C fj;have gK:=C eI;have cW:=C hs;clear hi dQ fj eI hs;simp only [de];go_enter Tryz.func20,Tryz.ntmps20
 go_wp2
 go_loopw [3,4] (fun v i wr=> ∃ (k:Nat) (dZ:Option Nat) (c':Nat),k≤rows.length∧i=H J k∧v=de dZ k c'∧cr wr 61 2 dZ k c' (mH (rows.take k))∧I [] w wr∧(∀ g,dZ=some g→w.heap.size≤g)) (fun _ i _=> rows.length - (intOf i).toNat)
 case atStart=> exact ⟨0,none,0,Nat.zero_le _,rfl,rfl,cr.nil _ _ _,I.refl _ _,by simp⟩
 case round=>
  obtain ⟨k,dZ,c',hk,rfl,rfl,dd,ck,b8⟩:=hrel;have hU:=C dd;have b6:=C ck;have kR:=C b8;clear dd ck b8
  by_cases aQ:k < rows.length
  ·cases a with
   | none=> exfalso;have h1:=cW.o.iJ.2;have h2:rows.length=0:=h1.1;omega
   | some gs=>
   simp only [Option.map_some];have hS:=cW.o.kJ b6.o;obtain ⟨d1,d2⟩:=hS.cells k aQ;have sY:mH (rows.take (k + 1))=mH (rows.take k) ++ [H J rows[k].En,M rows[k].bP rows[k].path.length rows[k].pc]:=by
    rw [List.take_succ_eq_append_getElem aQ,R2];rfl
   generalize rows[k]=r at *
   obtain ⟨iN,bP,path,pc⟩:=r;simp only at d1 d2 sY;have Jb:=C sY;clear hS sY;go_wp2_with fail
   refine Calls.mono (UY iN bP path.length pc wr) ?_;rintro e w2 ⟨rfl,hk2⟩;have afS:=C (hU.o.ah hk2 (by simp));have bQ:=C (b6.o.trans hk2);clear hk2 d1 d2
   go_wp2_with (at_builtin;refine yb rfl (.tmp 11) (.tmp 17) 48 rfl 61 gq _ 2 32 Tryz.underlying48 gH.o gI.o gJ.o gK.o rfl (by decide) dZ k c' _ rfl (afS.o.alloc _) ⟨w2.heap.size,0,none⟩ 1 1 [H J iN,M bP path.length pc] rfl rfl ?hnews ?hone (by decide) (by omega) (by omega) ?hk)
   case hnews=> exact x4 _ _ _ _ rfl
   case hone=> intro u cy;simp at cy;rcases cy with rfl | rfl <;> rfl
   case hk=>
    intro g3 an w3 qF aP il;have wU:I [] w w3:=(bQ.o.alloc _).cn aP (by intro x hx;simp at hx;exact .inr (kR.o x hx));have Si:w.heap.size≤g3:=by
     rcases il with h | h
     ·exact kR.o g3 h
     ·have:=bQ.o.size;omega
    have Ju:=C qF;have iX:=C wU;clear qF aP il wU;go_wp2;go_roundw
    case rel=> exact ⟨k + 1,some g3,an,by omega,by go_num,rfl,by rw [Jb.o];exact Ju.o,iX.o,by intro z aW;simp at aW;subst aW;exact Si⟩
    case measure=> simp [intOf];omega
  ·obtain rfl:k=rows.length:=by omega
   rw [List.take_length] at hU;go_wp2;go_ret;exact ⟨dZ,c',rfl,⟨hU.o,fun r aO=> (cW.o.kz r aO).bG b6.o (fun _ _=> by simp)⟩,b6.o⟩
theorem am6 {cp:Int} {ru:Bool}:∀ (l:List (Int × List Int)) {t ae q':Tree} {s:Int × List Int},pb cp ru t l=(0,some ae)→j9 ae cp ru s.1 s.2=(0,some q')→pb cp ru t (l ++ [s])=(0,some q'):=by
 intro l
 induction l with
 | nil=>
  intro t ae q' s h k;simp only [pb,Prod.mk.injEq,Option.some.injEq,true_and] at h;subst h;simp [pb,k]
 | cons x r ih=>
  intro t ae q' s h k;simp only [List.cons_append,pb] at h ⊢
  cases hx:(j9 t cp ru x.1 x.2).2 with
  | none=> rw [hx] at h;simp at h
  | some t1=> rw [hx] at h;simp only at h ⊢;exact ih h k
theorem anl (m:MRe) (cp:Int) (ru:Bool) (a:Option Nat) (c:Nat) (rows:List ei) (w:World) (aj:m.aK w) (ad:m.ab.bm≤1000000) (hs:tj w 52 a c rows) (hl:∀ r∈rows,r.path.length≤1000000∧r.path.length≤r.pc):
  Calls Tryz.prog 22 #[fV m cp ru,de a rows.length c] w (r6 w m.aw cp ru (H J (rk m.ab cp ru (rows.map ei.s)).1) (rk m.ab cp ru (rows.map ei.s)).2):=by
 obtain ⟨U,cd⟩:∃ U,U=w.heap.size:=⟨_,rfl⟩;obtain ⟨aE,cz⟩:∃ aE,aE=(w.alloc (.cells (m.row ++ [H J cp,Value.bool ru]).toArray 28)).alloc hN:=⟨_,rfl⟩;have cq:I [] w aE:=by rw [cz];exact I.a2 _ _ _
 have gg:aE.heap[U]? =some (.cells (m.row ++ [H J cp,Value.bool ru]).toArray 28 (0,0)):=by rw [cz,cd];exact (I.a1 _ _).heap (heap_alloc_new w _) (by simp)
 have aW:aE.heap[U + 1]? =some hN:=by rw [cz,cd];exact heap_alloc2_new w _ _
 have en:=C (Mb m cp ru aE (aj.ah cq) ad);obtain ⟨T,hT⟩:∃ T,T=m.ab:=⟨_,rfl⟩;obtain ⟨uJ,wV⟩:∃ l,l=m.aw:=⟨_,rfl⟩;have BO:=C (show ∀ b∈uJ,b < w.heap.size by rw [wV];exact aj.fi);have jo:=C (show ∃ ae:MRe,ae=m∧ae.aK aE∧ae.ab=T∧ae.ab.bm≤1000000∧du aE.heap.size uJ ae.aw from ⟨m,rfl,aj.ah cq,hT.symm,ad,fun b h=> .inl (by rw [wV];exact h)⟩);obtain ⟨R,aY⟩:∃ R,R=rk m.ab cp ru (rows.map ei.s):=⟨_,rfl⟩;rw [←aY];rw [←hT] at aY en;rw [←wV];unfold rk at aY;obtain ⟨ve,hve⟩:∃ v,v=gZ T cp ru:=⟨_,rfl⟩;rw [←hve] at aY en;have aD:=C aY;have aB:=C cd;have aH:=C cq;have ba:=C aW;have eX:=C hs;have jG:=C hl;have hn:rows.length≤9223372036854775807:=by
  cases a with
  | none=> have:=hs.iJ.2.1;omega
  | some g=> obtain ⟨_,cur,_,h1,h2,_⟩:=hs.iJ;unfold maxLen at h2;omega
 have mm:=C gg;obtain ⟨op1,aM,aN,set1,aS,kc1,aq,mn1,aI,mode1,n1,aL⟩:=m;have c7:=C (show aE=(w.alloc (.cells #[H J op1,M aM set1.length aN,M aS aq.length kc1,H J mn1,H J aI,H J mode1,H J n1,F aL,H J cp,F ru] 28)).alloc hN from cz);simp only [fV,MRe.row,List.cons_append,List.nil_append] at en;obtain ⟨ar,c1,c2,an,av,ay,ax,az,au,dg,fh⟩:=fR (show aE.heap[U]? =some (.cells #[H J op1,M aM set1.length aN,M aS aq.length kc1,H J mn1,H J aI,H J mode1,H J n1,F aL,H J cp,F ru] 28 (0,0)) from gg)
 show Calls Tryz.prog 22 #[.agg #[H J op1,M aM set1.length aN,M aS aq.length kc1,H J mn1,H J aI,H J mode1,H J n1,F aL,H J cp,F ru],de a rows.length c] w _
 simp only [de];clear cd cz cq gg aW aY aj hs fh hT hve hl ad wV;go_enter Tryz.func22,Tryz.ntmps22
 go_upto_region 1 with fail
 rw [←c7.o,←aB.o];go_wp2_with fail
 refine Calls.mono en.o ?_;rintro e w2 ⟨rfl,hk2⟩;have aU:=C hk2;clear hk2 en ar c1 c2 an av ay ax az au dg
 by_cases da:ve=0
 rotate_left
 ·have Bt:(ve !=0)=true:=by simpa using da
  have ga:=C (show R=(ve,none) by rw [aD.o,if_neg da]);have ho:=C (pe (aU.o.h ba.o) (H J 0) (M none 0 0) (M none 0 0) (H J 0) (H J 0) (H J 0) (H J 0) (F false) (H J 0) (F false));have fZ:=C ((aH.o.trans aU.o).cn (pf w2 (U + 1) (H J 0) (M none 0 0) (M none 0 0) (H J 0) (H J 0) (H J 0) (H J 0) (F false) (H J 0) (F false)) (by intro x hx;simp at hx;subst hx;exact .inr (by have:=aB.o;omega)));obtain ⟨z0,z1,z2,z3,z4,z5,b9,cc,qf,z9,cj⟩:=fR (aU.o.h ba.o);go_wp2;refine bodyPost_ret (qb rfl _ _ (U + 1) 28 #[H J 0,M none 0 0,M none 0 0,H J 0,H J 0,H J 0,H J 0,F false,H J 0,F false] (0,0) _ rfl ho.o Tryz.underlying28 rfl kO) rfl ?_;exact r6.dL (by rw [ga.o]) (by rw [ga.o];rfl) fZ.o
 subst da;have cw:=C (aD.o.trans (if_pos rfl));clear aD;go_wp2
 go_loopw [6,7] (fun e i wr=> ∃ (k:Nat) (ae:MRe),k≤rows.length∧e=H J 0∧i=H J k∧ae.aK wr∧I [U] aE wr∧wr.heap[U]? =some (.cells (ae.row ++ [H J cp,Value.bool ru]).toArray 28 (0,0))∧du aE.heap.size uJ ae.aw∧ae.ab.bm≤1000000∧R=pb cp ru ae.ab ((rows.drop k).map ei.s)) (fun _ i _=> rows.length - (intOf i).toNat)
 case atStart=>
  obtain ⟨ae,hq,h1,h2,h3,h4⟩:=jo.o;exact ⟨0,ae,Nat.zero_le _,rfl,rfl,h1.ah aU.o,aU.o.mono (by simp),by rw [hq];exact aU.o.h mm.o,h4,h3,by rw [List.drop_zero,h2];exact cw.o⟩
 case round=>
  clear cw jo aU mm;obtain ⟨k,m2,hk,rfl,rfl,aT,pv,w7,hfr,vY,ue⟩:=hrel;have kl:=C pv;have r3:=C aT;have vw:=C w7;have iP:=C hfr;have G5:=C vY;have JG:=C (show I [] w wr from aH.o.cn pv (by intro x hx;simp at hx;subst hx;exact .inr (by have:=aB.o;omega)));have B1:=C (pv.h ba.o);have mW:=C (show ∀ b∈m2.aw,b≠U∧b≠U + 1 from fun b ad=> by
   have h0:=lt_of_block ba.o
   rcases hfr b ad with h | h
   ·have:=BO.o b h;have:=aB.o;omega
   ·omega)
  clear aT pv w7 hfr vY
  by_cases aQ:k < rows.length
  ·cases a with
   | none=> exfalso;have h1:=eX.o.iJ.2;have h2:rows.length=0:=h1.1;omega
   | some gs=>
   simp only [Option.map_some];have hS:=eX.o.kJ JG.o;obtain ⟨d1,d2⟩:=hS.cells k aQ;have z6:(rows.drop k).map ei.s=rows[k].s::(rows.drop (k + 1)).map ei.s:=by rw [List.drop_eq_getElem_cons aQ];rfl
   have k1:=C (hS.kz rows[k] (List.getElem_mem aQ));have rz:=C (jG.o rows[k] (List.getElem_mem aQ));have ajX:=eX.o.iJ.lt;rw [z6] at ue
   generalize rows[k]=rw0 at *
   obtain ⟨iN,bP,path,pc⟩:=rw0;simp only at d1 d2 k1 rz;have qm:=C (show R=pb cp ru m2.ab ((iN,path)::(rows.drop (k + 1)).map ei.s) from ue);obtain ⟨rest,FY⟩:∃ rest,rest=(rows.drop (k + 1)).map ei.s:=⟨_,rfl⟩;rw [←FY] at qm;have Qz:=C FY;have MA:=C (show gs≠U by have:=aB.o;omega);have Ou:∀ jl,(j9 m2.ab cp ru iN path).2=some jl→gZ jl cp ru=0:=fun jl h=> UX h;have DM:=adD m2.ab cp ru iN path;clear hS z6 ue FY ajX;have gP:=C (fun (W:World) (h:I [] wr W)=> Pa m2 cp ru iN path bP pc W (r3.o.ah h) (k1.o.bG h (fun _ _=> by simp)) rz.o.2 rz.o.1 G5.o);obtain ⟨T2,tr⟩:∃ T2,T2=m2.ab:=⟨_,rfl⟩;obtain ⟨agF,Hz⟩:∃ l,l=m2.aw:=⟨_,rfl⟩;rw [←tr] at gP qm Ou DM;rw [←Hz] at gP iP mW;have BX:=C qm.o;unfold pb at BX;obtain ⟨mu,hPE⟩:∃ mu,mu=(j9 T2 cp ru iN path).1:=⟨_,rfl⟩;obtain ⟨kU,sS⟩:∃ kU,kU=(j9 T2 cp ru iN path).2:=⟨_,rfl⟩;simp only [←hPE,←sS] at DM BX Ou gP;have Ja:=C DM;have aga:=C Ou;obtain ⟨op1,aM,aN,set1,aS,kc1,aq,mn1,aI,mode1,n1,aL⟩:=m2;simp only [fV,MRe.row,List.cons_append,List.nil_append,CV] at gP;have uD:=C (show wr.heap[U]? =some (.cells #[H J op1,M aM set1.length aN,M aS aq.length kc1,H J mn1,H J aI,H J mode1,H J n1,F aL,H J cp,F ru] 28 (0,0)) from vw.o);obtain ⟨bg,aV,a6,bl,bq,bE,bF,bH,jz,jA,tp⟩:=fR uD.o;clear tr Hz vw r3 k1 rz G5 hPE sS qm DM Ou tp;have je:(0:Int)≤(k:Int):=by omega
   have hk1:(k:Int) < (rows.length:Int):=by omega
   go_upto_region 7 with fail
   go_cut [6] from 14 to 32 (fun k7 db=> ∃ (ae:MRe) (ak:World),k7=H J mu∧ak=db∧ae.ab=kU.getD .nil∧ae.aK ak∧I [U] wr ak∧(kU.isSome=true→ak.heap[U]? =some (.cells (ae.row ++ [H J cp,Value.bool ru]).toArray 28 (0,0)))∧du aE.heap.size uJ ae.aw)
   case first=>
    have eA:=C ((I.refl [] wr).drew);refine rg (S:=fun w'=> w'.cell? ⟨gs,k * 2,none⟩=some (H J iN)∧w'.cell? ⟨gs,k * 2 + 1,none⟩=some (M bP path.length pc)) (fun _ k=> ⟨k.c d1,k.c d2⟩) fun bM aF=> ?_;refine ag 1 ?_;refine ag 2 ?_;refine ag 3 ?_;refine ag 4 ?_;refine bh 0 fun ai af=> ?_;go_simp;refine af.out _ _ (⟨d1,d2⟩) (fun aF=> ?_);clear af ai;try go_frame
    clear bg aV a6 bl bq bE bF bH jz jA;refine bh 5 fun ai af=> ?_;go_simp;refine Calls.mono (gP.o _ eA.o) ?_;rintro gz w4 ⟨ae,J4,Ma,rfl,a7,iA,iF,aT,bc,hqf⟩;obtain ⟨q0,bN⟩:∃ q0,q0=ae:=⟨_,rfl⟩;rw [←bN] at a7 aT hqf;have dt:=C bN;have dK:=C a7;have dA:=C aT;have tJ:=C iA;have G6:=C iF;have cl:=C (eA.o.trans bc);have et:=C (show du aE.heap.size uJ q0.aw from fun b ad=> by
     rcases hqf b ad with h | h
     ·exact iP.o b h
     ·have h:wr.heap.size≤b:=h
      right;have:=kl.o.size;omega)
    have uM:=C (show ∀ b∈q0.aw,b≠U from fun b ad h=> by
     subst h
     rcases et.o b ad with h | h
     ·have:=BO.o b h;have:=aB.o;omega
     ·have:=lt_of_block ba.o;omega)
    have AS:=C (cl.o.h uD.o);obtain ⟨bA,bB,bC,bD,bs,bt,bu,bo,bx,bw,bp,bz⟩:=ae;simp only [fV,MRe.row,List.cons_append,List.nil_append];clear a7 iA iF aT bc hqf bN;refine af.out _ _ (bM.o _ cl.o) fun aF=> ?_;clear af ai;try go_frame
    refine ag 6 ?_;refine ag 7 ?_;refine ag 8 ?_;refine bh 9 fun ai af=> ?_;refine wp_store_row 28 (.tmp 2) (.tmp 27) rfl U #[H J bA,M bB bD.length bC,M bs bu.length bt,H J bo,H J bx,H J bw,H J bp,F bz,H J J4,F Ma] rfl rfl 28 #[H J op1,M aM set1.length aN,M aS aq.length kc1,H J mn1,H J aI,H J mode1,H J n1,F aL,H J cp,F ru] AS.o kO rfl (zb _ _ _ _ _ _ _ _ _ _ _ _ _ _) ?_;have c3:I [U] w4 (w4.setRow U #[H J bA,M bB bD.length bC,M bs bu.length bt,H J bo,H J bx,H J bw,H J bp,F bz,H J J4,F Ma]):=(I.refl [U] w4).setRow (.inl (by simp)) _;have SC:(w4.setRow U #[H J bA,M bB bD.length bC,M bs bu.length bt,H J bo,H J bx,H J bw,H J bp,F bz,H J J4,F Ma]).heap[U]? =some (.cells #[H J bA,M bB bD.length bC,M bs bu.length bt,H J bo,H J bx,H J bw,H J bp,F bz,H J J4,F Ma] 28 (0,0)):=setRow_heap w4 U _ _ _ _ AS.o;obtain ⟨eL,cY⟩:∃ eL,eL=w4.setRow U #[H J bA,M bB bD.length bC,M bs bu.length bt,H J bo,H J bx,H J bw,H J bp,F bz,H J J4,F Ma]:=⟨_,rfl⟩;rw [←cY] at c3 SC ⊢;have bk:=C c3;have qq:=C SC;refine af.out _ _ ⟨c3.cell (cl.o.c d1) (by simp;exact MA.o),c3.cell (cl.o.c d2) (by simp;exact MA.o)⟩ (fun aF=> ?_);clear af ai cY c3 SC;try go_frame
    refine ag 10 ?_;refine dR ?_;go_wp2;go_meet;exact ⟨q0,eL,rfl,rfl,dK.o,dA.o.bG bk.o (fun b ad=> by simpa using uM.o b ad),(cl.o.mono (by simp)).trans bk.o,fun h=> by
     have hc:=tJ.o;have aO:=G6.o;rw [if_pos h] at hc;rw [h,Bool.true_and] at aO;rw [qq.o,hc,aO,dt.o];rfl,et.o⟩
   case rest=>
    obtain ⟨ae,ak,rfl,rfl,a7,aT,dh,w7,hqf⟩:=hcut;have dG:=C (kl.o.trans dh);have dK:=C a7;have dA:=C aT;have et:=C hqf;have vw:=C w7;clear a7 aT dh w7 hqf bg aV a6 bl bq bE bF bH jz jA d1 d2 gP
    by_cases da:mu=0
    ·have qG:∃ x,kU=some x:=by rcases Ja.o with h | h;exact h.2;exact absurd da h.1
     obtain ⟨x,hx⟩:=qG;subst da;have rY:=C (show ae.ab.bm≤1000000 by
      have h1:ae.ab=x:=by rw [dK.o,hx];rfl
      have:=(ya (aga.o x hx)).2.1
      rw [h1];omega)
     have ga:=C (show R=pb cp ru ae.ab rest by
      have h1:ae.ab=x:=by rw [dK.o,hx];rfl
      rw [h1,BX.o,hx])
     have uC:=C (vw.o (by rw [hx];rfl));clear hx;go_wp2;go_roundw
     case rel=> exact ⟨k + 1,ae,by omega,rfl,by go_num,dA.o,dG.o,uC.o,et.o,rY.o,by rw [←Qz.o];exact ga.o⟩
     case measure=> simp [intOf];omega
    ·have Bt:(mu !=0)=true:=by simpa using da
     have FM:kU=none:=by rcases Ja.o with h | h;exact absurd h.1 da;exact h.2
     have ga:=C (show R=(mu,none) by rw [BX.o,FM]);have A6:=C (dG.o.h ba.o);have ho:=C (pe A6.o (H J 0) (M none 0 0) (M none 0 0) (H J 0) (H J 0) (H J 0) (H J 0) (F false) (H J 0) (F false));have fZ:=C ((show I [] w ak from aH.o.cn dG.o (by intro x hx;simp at hx;subst hx;exact .inr (by have:=aB.o;omega))).cn (pf ak (U + 1) (H J 0) (M none 0 0) (M none 0 0) (H J 0) (H J 0) (H J 0) (H J 0) (F false) (H J 0) (F false)) (by intro x hx;simp at hx;subst hx;exact .inr (by have:=aB.o;omega)));obtain ⟨z0,z1,z2,z3,z4,z5,b9,cc,qf,z9,cj⟩:=fR A6.o;clear FM;go_wp2;refine bodyPost_ret (qb rfl _ _ (U + 1) 28 #[H J 0,M none 0 0,M none 0 0,H J 0,H J 0,H J 0,H J 0,F false,H J 0,F false] (0,0) _ rfl ho.o Tryz.underlying28 rfl kO) rfl ?_;exact r6.dL (by rw [ga.o]) (by rw [ga.o];rfl) fZ.o
  ·obtain rfl:k=rows.length:=by omega
   rw [List.drop_length] at ue;have qm:=C (show R=(0,some m2.ab) from ue);obtain ⟨kA,vX⟩:∃ kA,kA=m2:=⟨_,rfl⟩;rw [←vX] at qm iP r3 mW;have zB:=C vX;obtain ⟨bA,bB,bC,bD,bs,bt,bu,bo,bx,bw,bp,bz⟩:=m2;have uD:=C (show wr.heap[U]? =some (.cells #[H J bA,M bB bD.length bC,M bs bu.length bt,H J bo,H J bx,H J bw,H J bp,F bz,H J cp,F ru] 28 (0,0)) from vw.o);clear ue vX vw;obtain ⟨bg,aV,a6,bl,bq,bE,bF,bH,jz,jA,tp⟩:=fR uD.o;have ho:=C (pe B1.o (H J bA) (M bB bD.length bC) (M bs bu.length bt) (H J bo) (H J bx) (H J bw) (H J bp) (F bz) (H J cp) (F ru));have c3:=pf wr (U + 1) (H J bA) (M bB bD.length bC) (M bs bu.length bt) (H J bo) (H J bx) (H J bw) (H J bp) (F bz) (H J cp) (F ru);have fZ:=C (JG.o.cn c3 (by intro x hx;simp at hx;subst hx;exact .inr (by have:=aB.o;omega)));have Jp:=C (r3.o.bG c3 fun b ad=> by have:=(mW.o b ad).2;simpa using this);obtain ⟨z0,z1,z2,z3,z4,z5,b9,cc,qf,z9,cj⟩:=fR B1.o;clear c3;go_wp2;refine bodyPost_ret (qb rfl _ _ (U + 1) 28 #[H J bA,M bB bD.length bC,M bs bu.length bt,H J bo,H J bx,H J bw,H J bp,F bz,H J cp,F ru] (0,0) _ rfl ho.o Tryz.underlying28 rfl kO) rfl ?_;exact r6.iI kA (by rw [qm.o]) (by rw [qm.o,zB.o];rfl) Jp.o fZ.o (fun b ad=> by
    rcases iP.o b ad with h | h
    ·exact .inl h
    ·right;have:=aH.o.size;omega)
def Vb (w:World) (nP:Nat) (t:Tree) (cp:Int) (ru:Bool) (e:Ending) (w':World):Prop:=
 ∃ (a:Option Nat) (c:Nat) (rows:List ei) (ae:MRe),e=.returned (.tuple #[de a rows.length c,fV ae cp ru])∧tj w' 52 a c rows∧(∀ r∈rows,r.path.length≤r.pc∧r.path.length≤1000000)∧ae.aK w'∧I [] w w'∧pb cp ru t (rows.map ei.s)=(0,some ae.ab)∧gZ ae.ab cp ru=0∧rows.length≤nP
theorem ac0 {P:Program} {fn:Func} {p ae:Tmp} {lT:TypeId} (h:fn.results=#[.tmp ae,.cell p lT]) (tmps:Array Value) (w:World) (g:Nat) (t:TypeId) (cs:Array Value) (zM:Nat × Nat) (d:TypeDesc)
  (hp:tmps.getD p undef=.pointer (some ⟨g,0,none⟩)) (hg:w.heap[g]? =some (.cells cs t zM))
  (cy:P.underlying lT=some d) (dB:(match d with | .struct _ | .array _ _=> true | _=> false)=true) (hi:(P.info? lT).map (·.size)=some cs.size):
  (results fn tmps).run P w=.ok (.tuple #[tmps.getD ae undef,.agg cs]) w:=by
 have Lo:tmps[p]?.getD undef=.pointer (some ⟨g,0,none⟩):=by simpa using hp
 simp [results,h,Lo,asAddr,run_loadVar_row w g t lT cs zM d hg cy dB hi]
theorem r6.CU {w:World} {src:List Nat} {cp:Int} {ru:Bool} {v:Value} {t:Tree} {e:Ending} {w':World} (h:r6 w src cp ru v (some t) e w'):∃ m:MRe,e=.returned (.tuple #[fV m cp ru,v])∧m.ab=t∧m.aK w'∧I [] w w'∧du w.heap.size src m.aw:=by
 obtain ⟨m,cp',ru',he,ht,hc,aO,ds,hk,hf⟩:=h;rw [Option.isSome_some,if_pos rfl] at hc;rw [Option.isSome_some,Bool.true_and] at aO;subst hc;subst aO;exact ⟨m,he,ht,ds,hk,hf⟩
theorem aim (m:MRe) (cp:Int) (ru:Bool) (cS:Option Addr) (dH:Nat) (bR:List Int) (nP:Nat) (w:World) (aj:m.aK w) (da:gZ m.ab cp ru=0) (hin:hr w cS bR) (N5:bR.length≤9223372036854775807) (NR:∀ x∈bR,np x) (aqP:nP≤1000):
  Calls Tryz.prog 18 #[fV m cp ru,M cS bR.length dH,H J (nP:Int)] w (Vb w nP m.ab cp ru):=by
 obtain ⟨gq,hi,dQ,fj,eI⟩:=info_parts OC;have gH:=C hi;have gI:=C dQ;have gJ:=C fj;have gK:=C eI;clear hi dQ fj eI;obtain ⟨U,cd⟩:∃ U,U=w.heap.size:=⟨_,rfl⟩;obtain ⟨aE,cz⟩:∃ aE,aE=(w.alloc (.cells (m.row ++ [H J cp,Value.bool ru]).toArray 28)).alloc hN:=⟨_,rfl⟩;have cq:I [] w aE:=by rw [cz];exact I.a2 _ _ _
 have gg:aE.heap[U]? =some (.cells (m.row ++ [H J cp,Value.bool ru]).toArray 28 (0,0)):=by rw [cz,cd];exact (I.a1 _ _).heap (heap_alloc_new w _) (by simp)
 have aW:aE.heap[U + 1]? =some hN:=by rw [cz,cd];exact heap_alloc2_new w _ _
 obtain ⟨T,hT⟩:∃ T,T=m.ab:=⟨_,rfl⟩;obtain ⟨uJ,wV⟩:∃ l,l=m.aw:=⟨_,rfl⟩;have BO:=C (show ∀ b∈uJ,b < w.heap.size by rw [wV];exact aj.fi);have jo:=C (show ∃ ae:MRe,ae.aK aE∧aE.heap[U]? =some (.cells (ae.row ++ [H J cp,Value.bool ru]).toArray 28 (0,0))∧du aE.heap.size uJ ae.aw∧gZ ae.ab cp ru=0∧pb cp ru T []=(0,some ae.ab) from ⟨m,aj.ah cq,gg,fun b h=> .inl (by rw [wV];exact h),da,by rw [hT];rfl⟩);have aB:=C cd;have aH:=C cq;have ba:=C aW;have k1:=C hin;have PQ:=C NR;rw [←hT];obtain ⟨op1,aM,aN,set1,aS,kc1,aq,mn1,aI,mode1,n1,aL⟩:=m;have c7:=C (show aE=(w.alloc (.cells #[H J op1,M aM set1.length aN,M aS aq.length kc1,H J mn1,H J aI,H J mode1,H J n1,F aL,H J cp,F ru] 28)).alloc hN from cz)
 show Calls Tryz.prog 18 #[.agg #[H J op1,M aM set1.length aN,M aS aq.length kc1,H J mn1,H J aI,H J mode1,H J n1,F aL,H J cp,F ru],M cS bR.length dH,H J (nP:Int)] w _
 clear cd cz cq gg aW aj hT da hin NR wV;go_enter Tryz.func18,Tryz.ntmps18
 go_upto_region 1 with fail
 rw [←c7.o,←aB.o];go_wp2
 go_loopw [6,8,9,10,11,12] (fun _ v i _ _ _ wr=> ∃ (k:Nat) (a:Option Nat) (c:Nat) (rows:List ei) (ae:MRe),k≤nP∧rows.length=k∧i=H J k∧v=de a rows.length c∧wK wr 52 aE.heap.size a c rows∧I [U] aE wr∧ae.aK wr∧wr.heap[U]? =some (.cells (ae.row ++ [H J cp,Value.bool ru]).toArray 28 (0,0))∧du aE.heap.size uJ ae.aw∧gZ ae.ab cp ru=0∧pb cp ru T (rows.map ei.s)=(0,some ae.ab)∧(∀ g,a=some g→∀ b∈ae.aw,b≠g)∧∀ r∈rows,(r.path.length≤r.pc∧r.path.length≤1000000)∧∀ aX,r.bP=some aX→aE.heap.size≤aX.block) (fun _ _ i _ _ _ _=> nP - (intOf i).toNat)
 case atStart=>
  obtain ⟨ae,h1,h2,h3,h4,h5⟩:=jo.o;exact ⟨0,none,0,[],ae,Nat.zero_le _,rfl,rfl,rfl,⟨⟨cr.nil _ _ _,by simp⟩,by simp,by simp⟩,I.refl _ _,h1,h2,h3,h4,h5,by simp,by simp⟩
 case round=>
  obtain ⟨k,a,c,rows,m2,hk,kI,rfl,rfl,eE,pv,aT,w7,hfr,FX,Am,SG,hQ⟩:=hrel;have fq:=C eE;have kl:=C pv;have r3:=C aT;have iP:=C hfr;have wF:=C FX;have oN:=C Am;have Vm:=C SG;have mY:=C hQ;have oM:=C kI;have JG:=C (show I [] w wr from aH.o.cn pv (by intro x hx;simp at hx;subst hx;exact .inr (by have:=aB.o;omega)));have B1:=C (pv.h ba.o);have mW:=C (show ∀ b∈m2.aw,b≠U∧b≠U + 1 from fun b ad=> by
   have h0:=lt_of_block ba.o
   rcases hfr b ad with h | h
   ·have:=BO.o b h;have:=aB.o;omega
   ·omega)
  have G5:=C (show m2.ab.bm≤1000000 by have:=(ya FX).2.1;omega);have oi:=C (show hr wr cS bR from k1.o.bG JG.o (fun _ _=> by simp));obtain ⟨kA,vX⟩:∃ kA,kA=m2:=⟨_,rfl⟩;rw [←vX] at r3 iP wF oN Vm mW G5;have zB:=C vX;obtain ⟨op1,aM,aN,set1,aS,kc1,aq,mn1,aI,mode1,n1,aL⟩:=m2;have uD:=C (show wr.heap[U]? =some (.cells #[H J op1,M aM set1.length aN,M aS aq.length kc1,H J mn1,H J aI,H J mode1,H J n1,F aL,H J cp,F ru] 28 (0,0)) from w7);obtain ⟨bg,aV,a6,bl,bq,bE,bF,bH,jz,jA,tp⟩:=fR uD.o;have DA:U + 1 < aE.heap.size:=lt_of_block ba.o;have GW:=C (show ∀ W,I [] wr W→((W.drew).setRow (U + 1) #[H J op1,M aM set1.length aN,M aS aq.length kc1,H J mn1,H J aI,H J mode1,H J n1,F aL,H J cp,F ru]).heap[U + 1]? =some (.cells #[H J op1,M aM set1.length aN,M aS aq.length kc1,H J mn1,H J aI,H J mode1,H J n1,F aL,H J cp,F ru] 28 (0,0))∧tj ((W.drew).setRow (U + 1) #[H J op1,M aM set1.length aN,M aS aq.length kc1,H J mn1,H J aI,H J mode1,H J n1,F aL,H J cp,F ru]) 52 a c rows∧kA.aK ((W.drew).setRow (U + 1) #[H J op1,M aM set1.length aN,M aS aq.length kc1,H J mn1,H J aI,H J mode1,H J n1,F aL,H J cp,F ru])∧I [] w ((W.drew).setRow (U + 1) #[H J op1,M aM set1.length aN,M aS aq.length kc1,H J mn1,H J aI,H J mode1,H J n1,F aL,H J cp,F ru]) from fun W l5=> by
   have OE:=l5.drew;have c3:I [U + 1] W.drew ((W.drew).setRow (U + 1) #[H J op1,M aM set1.length aN,M aS aq.length kc1,H J mn1,H J aI,H J mode1,H J n1,F aL,H J cp,F ru]):=(I.refl [U + 1] _).setRow (.inl (by simp)) _;refine ⟨setRow_heap _ _ _ _ _ _ (OE.h B1.o),?_,?_,(JG.o.trans OE).cn c3 (by intro x hx;simp at hx;subst hx;exact .inr (by have:=aB.o;omega))⟩
   ·exact ((fq.o.ah OE).bG c3 (fun g hg=> by have:=fq.o.2.1 g hg;simp;omega) (fun r aO aX dC=> by have:=(mY.o r aO).2 aX dC;simp;omega)).1
   ·exact (r3.o.ah OE).bG c3 fun b ad=> by have:=(mW.o b ad).2;simpa using this)
  clear eE pv aT w7 hfr FX Am SG hQ vX tp kI
  by_cases aQ:k < nP
  ·have HS:(k:Int) < (nP:Int):=by omega
   have EX:=ac5 kA cp ru wr r3.o G5.o;unfold Q5 at EX;rw [wF.o,zB.o] at EX;simp only [fV,MRe.row,List.cons_append,List.nil_append] at EX;have EX:=C EX;have GS:=C (show 1000 ≥ nP by omega);go_wp2_with fail
   refine Calls.mono EX.o ?_;rintro gz w3 ⟨acQ,mA,iN,rfl,Om,aP,Bq,aas,il,kW⟩;have afk:=C (show iN.map ei.s=ug kA.ab cp ru by rw [Bq,zB.o];simp);have QG:=C Om;have Jm:=C aas;have qo:=C kW;have aR:=C aP;have p5:iN.length≤9223372036854775807:=by
    cases acQ with
    | none=> have:=Om.iJ.2.1;omega
    | some g=> obtain ⟨_,cur,_,h1,h2,_⟩:=Om.iJ;unfold maxLen at h2;omega
   have dx:=aP.au bg aV a6 bl bq bE bF bH;clear bg aV a6 bl bq bE bF bH;obtain ⟨bg,aV,a6,bl,bq,bE,bF,bH⟩:=dx;replace jz:=aP.c jz;replace jA:=aP.c jA;simp only [de];clear Om aP Bq aas il kW EX
   by_cases dQ:iN.length=0
   ·have Bu:((iN.length:Int)==0)=true:=by rw [dQ];rfl
    have PX:=C (show (w3.drew).heap[U + 1]? =some hN from aR.o.drew.h B1.o);clear dQ;go_wp2;refine rg (S:=fun w'=> (iK w' U op1 aM set1 aN aS aq kc1 mn1 aI mode1 n1 aL)∧w'.cell? ⟨U,8,none⟩=some (H J cp)∧w'.cell? ⟨U,9,none⟩=some (F ru)) (fun _ k=> ⟨(k.au bg aV a6 bl bq bE bF bH),k.c jz,k.c jA⟩) fun bM aF=> ?_;refine ag 0 ?_;refine ag 1 ?_;refine ag 2 ?_;refine bh 3 fun ai af=> ?_;refine wp_store_row 28 (.tmp 7) (.tmp 27) rfl (U + 1) #[H J op1,M aM set1.length aN,M aS aq.length kc1,H J mn1,H J aI,H J mode1,H J n1,F aL,H J cp,F ru] rfl rfl 28 #[H J 0,M none 0 0,M none 0 0,H J 0,H J 0,H J 0,H J 0,F false,H J 0,F false] PX.o kO rfl (zb _ _ _ _ _ _ _ _ _ _ _ _ _ _) ?_;obtain ⟨eL,cY⟩:∃ eL,eL=(w3.drew).setRow (U + 1) #[H J op1,M aM set1.length aN,M aS aq.length kc1,H J mn1,H J aI,H J mode1,H J n1,F aL,H J cp,F ru]:=⟨_,rfl⟩;have gj:=GW.o w3 aR.o;rw [←cY] at gj ⊢;have tK:=C gj;have c3:I [U + 1] (w3.drew) eL:=by rw [cY];exact (I.refl [U + 1] _).setRow (.inl (by simp)) _
    refine af.out _ _ ⟨(c3.au bg aV a6 bl bq bE bF bH),c3.c jz,c3.c jA⟩ (fun aF=> ?_);clear af ai cY c3 gj;try go_frame
    refine dR ?_;go_wp2;refine bodyPost_ret (ac0 rfl _ _ (U + 1) 28 #[H J op1,M aM set1.length aN,M aS aq.length kc1,H J mn1,H J aI,H J mode1,H J n1,F aL,H J cp,F ru] (0,0) _ rfl tK.o.1 Tryz.underlying28 rfl kO) rfl ?_;exact ⟨a,c,rows,kA,by rw [zB.o];rfl,tK.o.2.1,fun r aO=> ((mY.o r aO).1),tK.o.2.2.1,tK.o.2.2.2,oN.o,wF.o,by have:=oM.o;omega⟩
   ·have Bu:((iN.length:Int)==0)=false:=by simp;exact fun h=> dQ (by rw [h];rfl)
    have BS:=C (acL cS dH bR k iN.length w3 (oi.o.bG aR.o (fun _ _=> by simp)) N5 PQ.o (by omega));clear dQ;go_wp2_with fail
    refine Calls.mono BS.o ?_;rintro gz w4 ⟨Et,eD,mi,rfl,rfl⟩;obtain ⟨x,rfl⟩:∃ x:Nat,Et=(x:Int):=⟨Et.toNat,by omega⟩;have LF:x < iN.length:=by omega
    cases acQ with
    | none=> exfalso;have h1:=QG.o.iJ.2;have h2:iN.length=0:=h1.1;omega
    | some gr=>
    simp only [Option.map_some];obtain ⟨d1,d2⟩:=QG.o.cells x LF;have P3:=C (QG.o.kz iN[x] (List.getElem_mem LF));have yt:=C (Jm.o iN[x] (List.getElem_mem LF));have hL:=C (qo.o iN[x] (List.getElem_mem LF));have hmem:iN[x].s∈ug kA.ab cp ru:=by rw [←afk.o];exact List.mem_map_of_mem (List.getElem_mem LF)
    obtain ⟨jl,eE,D6,mM⟩:=U0 wF.o hmem
    generalize iN[x]=rw0 at *
    obtain ⟨pd,bP,path,pc⟩:=rw0;simp only [ei.s] at d1 d2 P3 yt hL eE mM;have hat:=fun (W:World) (h:I [] w3 W)=> Pa kA cp ru pd path bP pc W (r3.o.ah (aR.o.trans h)) (P3.o.bG h (fun _ _=> by simp)) yt.o.1 mM G5.o;rw [eE] at hat;have af6:=C D6;have afZ:=C eE;have hI:=C mM;have gP:=fun (W:World) (h:I [] w3 W)=> Calls.mono (hat W h) fun _ _ h=> r6.CU h;obtain ⟨agF,Hz⟩:∃ l,l=kA.aw:=⟨_,rfl⟩;rw [←Hz] at gP;have G0:=C Hz;rw [zB.o] at gP;simp only [fV,MRe.row,List.cons_append,List.nil_append,CV] at gP;have gP:=C gP;clear hmem eE D6 mM hat Hz;go_upto_region 9 with fail
    obtain ⟨fO,lh⟩:∃ fO,fO=w3.alloc (.cells #[H J pd,M bP path.length pc] 52):=⟨_,rfl⟩;obtain ⟨gS,sR⟩:∃ aG,aG=w3.heap.size:=⟨_,rfl⟩;have lD:I [] w3 fO:=by rw [lh];exact I.a1 _ _
    have Cs:fO.heap[gS]? =some (.cells #[H J pd,M bP path.length pc] 52 (0,0)):=by rw [lh,sR];exact heap_alloc_new w3 _
    rw [←lh,←sR];have k3:=C lD;have Mz:=C (show U < gS by rw [sR];have:=aR.o.size;have:=kl.o.size;omega);have c0:fO.cell? ⟨gS,0,none⟩=some (H J pd):=by simp [World.cell?,Cs]
    have cT:fO.cell? ⟨gS,1,none⟩=some (M bP path.length pc):=by simp [World.cell?,Cs]
    have dx:=lD.au bg aV a6 bl bq bE bF bH;clear bg aV a6 bl bq bE bF bH;obtain ⟨bg,aV,a6,bl,bq,bE,bF,bH⟩:=dx;replace jz:=lD.c jz;replace jA:=lD.c jA;clear lh sR lD Cs d1 d2;go_wp2_with fail
    refine Calls.mono (gP.o _ k3.o) ?_;rintro gz gW ⟨ae,rfl,a7,aT,gX,hqf⟩;obtain ⟨pa,Lq⟩:∃ pa,pa=ae:=⟨_,rfl⟩;rw [←Lq] at a7 aT hqf;have ag0:=C Lq;have WL:=C a7;have ag3:=C aT;have eV:=C ((aR.o.trans k3.o).trans gX);have Wx:=C (k3.o.trans gX);have Q2:=C (show ∀ b∈pa.aw,b∈kA.aw∨wr.heap.size≤b from fun b ad=> by
     rcases hqf b ad with h | h
     ·exact .inl (by rw [←G0.o];exact h)
     ·right;have:=(aR.o.trans k3.o).size;omega)
    have ag2:=C (show ∀ b∈pa.aw,b≠U from fun b ad=> by
     rcases Q2.o b ad with h | h
     ·exact (mW.o b h).1
     ·have:=kl.o.size;omega)
    have VG:=C (eV.o.h uD.o);obtain ⟨bA,bB,bC,bD,bs,bt,bu,bo,bx,bw,bp,bz⟩:=ae;simp only [List.cons_append,List.nil_append];replace c0:=gX.c c0;replace cT:=gX.c cT;obtain ⟨b0,b1,b2,b3,dX,dS,dU,dT,Rw,ahY,vM⟩:=fR VG.o;clear a7 aT gX hqf Lq bg aV a6 bl bq bE bF bH jz jA gP;go_upto_region 10 with fail
    obtain ⟨ak,cY⟩:∃ ak,ak=Pn gW U (H J bA) (M bB bD.length bC) (M bs bu.length bt) (H J bo) (H J bx) (H J bw) (H J bp) (F bz) (H J cp) (F ru):=⟨_,rfl⟩;have xb:=pe VG.o (H J bA) (M bB bD.length bC) (M bs bu.length bt) (H J bo) (H J bx) (H J bw) (H J bp) (F bz) (H J cp) (F ru);have Ed:=pf gW U (H J bA) (M bB bD.length bC) (M bs bu.length bt) (H J bo) (H J bx) (H J bw) (H J bp) (F bz) (H J cp) (F ru);rw [←cY] at xb Ed
    show Code.wp _ _ _ _ (Pn gW U (H J bA) (M bB bD.length bC) (M bs bu.length bt) (H J bo) (H J bx) (H J bw) (H J bp) (F bz) (H J cp) (F ru))
    rw [←cY];have QB:=C xb;have Wy:=C Ed;have WB:=C (show I [U] wr ak from (eV.o.mono (by simp)).trans Ed);have WM:=C (ag3.o.bG Ed fun b ad=> by have:=ag2.o b ad;simpa using this);replace c0:=Ed.cell c0 (by have:=Mz.o;simp;omega);replace cT:=Ed.cell cT (by have:=Mz.o;simp;omega);have ho:=C ((fq.o.ah eV.o).bG Ed (fun g hg=> by have:=fq.o.2.1 g hg;simp;omega) (fun r aO aX dC=> by have:=(mY.o r aO).2 aX dC;simp;omega));clear cY xb Ed b0 b1 b2 b3 dX dS dU dT Rw ahY vM;have akx:rows.length≤1000:=by have:=oM.o;have:=GS.o;omega
    go_wp2_with (at_builtin;refine yb rfl (.tmp 42) (.tmp 44) 43 rfl 52 gq _ 2 32 Tryz.underlying43 gH.o gI.o gJ.o gK.o rfl (by decide) a rows.length c _ rfl (ho.o.1.iJ.alloc _) ⟨ak.heap.size,0,none⟩ 1 1 [H J pd,M bP path.length pc] rfl rfl (x4 _ _ _ _ rfl) ?hone (by decide) (by omega) (by omega) ?hk)
    case hone=> intro u cy;simp at cy;rcases cy with rfl | rfl <;> rfl
    case hk=>
     intro g3 an eB vZ ie nN;have hga:∀ aX,bP=some aX→wr.heap.size≤aX.block∧aX.block < w3.heap.size:=fun aX dC=> ⟨yt.o.2 aX dC,(hL.o aX dC).1⟩;have hal:∀ y,a=some y→aE.heap.size≤y∧y < wr.heap.size:=fun y hy=> ⟨fq.o.2.1 y hy,by subst hy;exact fq.o.1.iJ.lt⟩;have ajk:=k3.o.size;have F6:=kl.o.size;have ajq:=eV.o.size;have vd:=aR.o.size;have ajC:=WB.o.size;have ajj:w3.heap.size≤ak.heap.size:=Nat.le_trans Wx.o.size Wy.o.size;have Ys:hr eB bP path:=by
      refine (((P3.o.bG Wx.o (fun _ _=> by simp)).bG Wy.o (fun aX dC=> ?_)).bG (I.a1 ak (.cells #[H J pd,M bP path.length pc] 52)) (fun _ _=> by simp)).bG ie (fun aX dC hm=> ?_)
      ·have:=hga aX dC;simp;omega
      ·have h1:=hga aX dC;have h2:=hal aX.block (by simpa using hm);omega
     have uX:=(ho.o.ah (I.a1 ak (.cells #[H J pd,M bP path.length pc] 52))).push (r:=⟨pd,bP,path,pc⟩) (by simp;omega) ie (by simpa using nN) vZ Ys (fun aX dC=> ⟨by have:=hga aX dC;simp;omega,fun h=> by
      have h1:=hga aX dC;have h4:=hal aX.block h.symm
      omega⟩)
     have mX:=C uX;have OF:I a.toList ak eB:=((I.a1 ak _).mono (by simp)).trans ie;have YO:U ∉ a.toList:=fun h=> by have:=hal U (by simpa using h);omega
     have BK:=C (show I [U] aE eB from ((kl.o.trans WB.o).cn OF (fun y hy=> .inr (hal y (by simpa using hy)).1)));have TB:∀ b∈pa.aw,b ∉ a.toList:=fun b ad hm=> by
      have h1:a=some b:=by simpa using hm
      have h2:=hal b h1
      rcases Q2.o b ad with h | h
      ·exact Vm.o b h1 b h rfl
      ·omega
     have afC:=C (show pa.aK eB from WM.o.bG OF TB);have GQ:=C (show eB.heap[U]? =some (.cells (pa.row ++ [H J cp,Value.bool ru]).toArray 28 (0,0)) by rw [OF.heap QB.o YO,ag0.o];rfl);have aeN:=C (show du aE.heap.size uJ pa.aw from fun b ad=> by
      rcases Q2.o b ad with h | h
      ·exact iP.o b h
      ·right;omega)
     have aes:=C (show ∀ g,some g3=some g→∀ b∈pa.aw,b≠g from fun g hg b ad h=> by
      cases hg
      subst h
      rcases nN with h1 | h1
      ·exact TB b ad (by simp [h1])
      ·have:=WM.o.fi b ad;omega)
     have afF:=C (show ∀ x∈rows ++ [(⟨pd,bP,path,pc⟩:ei)],(x.path.length≤x.pc∧x.path.length≤1000000)∧∀ aX,x.bP=some aX→aE.heap.size≤aX.block from fun x hx=> by
      rcases List.mem_append.1 hx with hx | hx
      ·exact mY.o x hx
      ·simp at hx;subst hx;exact ⟨⟨yt.o.1,hI.o⟩,fun aX dC=> by have:=hga aX dC;omega⟩)
     have af9:=C (show gZ pa.ab cp ru=0 by rw [WL.o];exact af6.o);have afQ:=C (show pb cp ru T ((rows ++ [(⟨pd,bP,path,pc⟩:ei)]).map ei.s)=(0,some pa.ab) by
      rw [ei.abR];exact am6 _ oN.o (by rw [WL.o];exact afZ.o))
     have Qb:=C (show (rows ++ [(⟨pd,bP,path,pc⟩:ei)]).length=k + 1 by rw [List.length_append,oM.o];rfl);clear vZ ie nN hga hal ajk F6 ajq vd ajC ajj Ys uX OF YO TB c0 cT akx;go_wp2;go_roundw
     case rel=> exact ⟨k + 1,some g3,an,_,pa,by omega,Qb.o,by go_num,by rw [List.length_append];rfl,mX.o,BK.o,afC.o,GQ.o,aeN.o,af9.o,afQ.o,aes.o,afF.o⟩
     case measure=> simp [intOf];omega
  ·obtain rfl:k=nP:=by omega
   have PX:=C (show (wr.drew).heap[U + 1]? =some hN from (I.refl [] wr).drew.h B1.o);go_wp2;refine rg (S:=fun w'=> (iK w' U op1 aM set1 aN aS aq kc1 mn1 aI mode1 n1 aL)∧w'.cell? ⟨U,8,none⟩=some (H J cp)∧w'.cell? ⟨U,9,none⟩=some (F ru)) (fun _ k=> ⟨(k.au bg aV a6 bl bq bE bF bH),k.c jz,k.c jA⟩) fun bM aF=> ?_;refine ag 0 ?_;refine ag 1 ?_;refine ag 2 ?_;refine bh 3 fun ai af=> ?_;refine wp_store_row 28 (.tmp 7) (.tmp 47) rfl (U + 1) #[H J op1,M aM set1.length aN,M aS aq.length kc1,H J mn1,H J aI,H J mode1,H J n1,F aL,H J cp,F ru] rfl rfl 28 #[H J 0,M none 0 0,M none 0 0,H J 0,H J 0,H J 0,H J 0,F false,H J 0,F false] PX.o kO rfl (zb _ _ _ _ _ _ _ _ _ _ _ _ _ _) ?_;obtain ⟨eL,cY⟩:∃ eL,eL=(wr.drew).setRow (U + 1) #[H J op1,M aM set1.length aN,M aS aq.length kc1,H J mn1,H J aI,H J mode1,H J n1,F aL,H J cp,F ru]:=⟨_,rfl⟩;have gj:=GW.o wr (I.refl [] wr);rw [←cY] at gj ⊢;have tK:=C gj;have c3:I [U + 1] (wr.drew) eL:=by rw [cY];exact (I.refl [U + 1] _).setRow (.inl (by simp)) _
   refine af.out _ _ ⟨(c3.au bg aV a6 bl bq bE bF bH),c3.c jz,c3.c jA⟩ (fun aF=> ?_);clear af ai cY c3 gj;try go_frame
   refine dR ?_;go_wp2;refine bodyPost_ret (ac0 rfl _ _ (U + 1) 28 #[H J op1,M aM set1.length aN,M aS aq.length kc1,H J mn1,H J aI,H J mode1,H J n1,F aL,H J cp,F ru] (0,0) _ rfl tK.o.1 Tryz.underlying28 rfl kO) rfl ?_;exact ⟨a,c,rows,kA,by rw [zB.o];rfl,tK.o.2.1,fun r aO=> ((mY.o r aO).1),tK.o.2.2.1,tK.o.2.2.2,oN.o,wF.o,by have:=oM.o;omega⟩
theorem aoc {cp:Int} {ru:Bool}:∀ (l:List (Int × List Int)) {t ae:Tree},gZ t cp ru=0→pb cp ru t l=(0,some ae)→rk t cp ru l=(0,some ae):=fun l t ae da h=> by rw [rk,if_pos da];exact h
theorem cr.an6 {w:World} {e size:Nat} {a:Option Nat} {n c:Nat} {xs:List Value} (h:cr w e size a n c xs):0 < n→∃ aX,(a.map fun g=> (⟨g,0,none⟩:Addr))=some aX∧∀ j u,xs[j]? =some u→w.cell? (aX.add j)=some u:=fun h0=> by
 cases a with
 | none=> obtain ⟨_,h2,_⟩:=h;omega
 | some g=>
  refine ⟨⟨g,0,none⟩,rfl,fun j u cy=> ?_⟩;obtain ⟨c8,cy⟩:=List.getElem?_eq_some_iff.1 cy;rw [Hm,Nat.zero_add,h.cell j c8,cy]
theorem ai6:∀ (rows:List ei) (k:Nat) (h:k < rows.length) (r:Int),mH (rows.set k ⟨r,rows[k].bP,rows[k].path,rows[k].pc⟩)=(mH rows).set (k * 2) (H J r):=by
 intro rows
 induction rows with
 | nil=> intro k h;simp at h
 | cons x l ih=>
  intro k h r
  cases k with
  | zero=> simp [mH]
  | succ k=>
   have:=ih k (by simpa using h) r
   simp only [List.set_cons_succ,List.getElem_cons_succ,mH,List.flatMap_cons] at this ⊢;rw [this,show (k + 1) * 2=k * 2 + 1 + 1 by omega]
   simp
theorem ai7 {rows:List ei} {k:Nat} (h:k < rows.length) {gV:ei} (e:rows[k]=gV) (r:Int):mH (rows.set k ⟨r,gV.bP,gV.path,gV.pc⟩)=(mH rows).set (k * 2) (H J r):=by subst e;exact ai6 rows k h r
theorem abU {rows:List ei} {k:Nat} {x r:ei} (h:r∈rows.set k x):r=x∨r∈rows:=by
 rcases List.mem_or_eq_of_mem_set h with h | h
 ·exact .inr h
 ·exact .inl h
theorem am7 {cp:Int} {ru:Bool}:∀ (l:List (Int × List Int)) {t ae:Tree},gZ t cp ru=0→(pb cp ru t l).2=some ae→gZ ae cp ru=0:=by
 intro l
 induction l with
 | nil=> intro t ae h k;simp only [pb,Option.some.injEq] at k;subst k;exact h
 | cons x r ih=>
  intro t ae h k;simp only [pb] at k
  cases hx:(j9 t cp ru x.1 x.2).2 with
  | none=> rw [hx] at k;simp at k
  | some t1=> rw [hx] at k;exact ih (UX hx) k
theorem am5 {t:Tree} {cp:Int} {ru:Bool} (l:List (Int × List Int)):∀ ae,(rk t cp ru l).2=some ae→gZ ae cp ru=0:=fun ae h=> by
 unfold rk at h
 split at h
 ·rename_i da;exact am7 l da h
 ·cases h
end Go.Proofs.YtjnlkjlbejelgaaGreat
