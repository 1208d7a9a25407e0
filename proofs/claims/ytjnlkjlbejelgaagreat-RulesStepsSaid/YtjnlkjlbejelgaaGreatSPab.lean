/- Part of the proof. No condition: every lemma says its own. -/
import Derived.Test.YtjnlkjlbejelgaaGreatSPaa
namespace Go.Proofs.YtjnlkjlbejelgaaGreat
open Go.RowKit
open Go.Value renaming int→H,slice→M,bool→F
open Go.IntKind renaming i64→J
set_option maxRecDepth 100000
set_option maxHeartbeats 16000000
theorem UE (m:MRe) (cp:Int) (ru:Bool) (w:World) (aj:m.aK w):
  Calls Tryz.prog 24 #[fV m cp ru] w (M9 w m.ab cp ru):=by
 obtain ⟨gq,hi,dQ,fj,eI⟩:=info_parts abi;have gH:=C hi;have gI:=C dQ;have gJ:=C fj;have gK:=C eI;clear hi dQ fj eI;obtain ⟨U,cd⟩:∃ U,U=w.heap.size:=⟨_,rfl⟩;obtain ⟨aE,cz⟩:∃ aE,aE=w.alloc (.cells (m.row ++ [H J cp,Value.bool ru]).toArray 28):=⟨_,rfl⟩;have cq:I [] w aE:=by rw [cz];exact I.a1 _ _
 have gg:aE.heap[U]? =some (.cells (m.row ++ [H J cp,Value.bool ru]).toArray 28 (0,0)):=by rw [cz,cd];exact heap_alloc_new w _
 have en:=C (Nn m cp ru aE (aj.ah cq));obtain ⟨T,hT⟩:∃ T,T=m.ab:=⟨_,rfl⟩;unfold M9;obtain ⟨ve,hve⟩:∃ v,v=gZ T cp ru:=⟨_,rfl⟩;have zr:=C (show ve=0→T.dE∧T.bm≤16640 from fun h=> by have:=ya (hve ▸ h);exact ⟨this.1,this.2.1⟩);have ly:=C (fun (W:World) (h:I [] aE W) (h2:T.bm≤1000000)=> (hT ▸ ahS m W ((aj.ah cq).ah h) (hT ▸ h2):Calls Tryz.prog 60 #[m.val] W (Dk W T)));have wE:=C (fun (W:World) (h:I [] aE W) (p:MRe) (path:List Int) (bP:Option Addr) (pc:Nat) (hin:hr W bP path) (hl:path.length≤1000000) (h1:p.aK W) (h2:m.ab.bm≤1000000) (h3:p.ab.bm≤1000000)=> ac3 m p cp ru path bP pc W ((aj.ah cq).ah h) h1 hin hl h2 h3);have gP:=C (fun (W:World) (h:I [] aE W) (path:List Int) (bP:Option Addr) (pc:Nat) (hin:hr W bP path) (hl:path.length≤1000000) (h2:m.ab.bm≤1000000)=> W7 m path bP pc W ((aj.ah cq).ah h) hin hl h2);rw [←hT] at en wE gP ⊢;rw [←hve] at en ⊢;have aB:=C cd;have aH:=C cq;obtain ⟨op1,aM,aN,set1,aS,kc1,aq,mn1,aI,mode1,n1,aL⟩:=m;have c7:=C (show aE=w.alloc (.cells #[H J op1,M aM set1.length aN,M aS aq.length kc1,H J mn1,H J aI,H J mode1,H J n1,F aL,H J cp,F ru] 28) from cz);simp only [MRe.val,fV,MRe.row,List.cons_append,List.nil_append] at en ly wE gP;obtain ⟨ar,c1,c2,an,av,ay,ax,az,au,dg,fh⟩:=fR (show aE.heap[U]? =some (.cells #[H J op1,M aM set1.length aN,M aS aq.length kc1,H J mn1,H J aI,H J mode1,H J n1,F aL,H J cp,F ru] 28 (0,0)) from gg)
 show Calls Tryz.prog 24 #[.agg #[H J op1,M aM set1.length aN,M aS aq.length kc1,H J mn1,H J aI,H J mode1,H J n1,F aL,H J cp,F ru]] w _
 clear cd cz cq gg aj fh hT hve;go_enter Tryz.func24,Tryz.ntmps24
 go_upto_region 1 with fail
 rw [←c7.o,←aB.o];go_wp2_with fail
 refine Calls.mono en.o ?_;rintro e w2 ⟨rfl,hk2⟩;have aU:=C hk2;have dx:=hk2.au ar c1 c2 an av ay ax az;clear ar c1 c2 an av ay ax az;obtain ⟨ar,c1,c2,an,av,ay,ax,az⟩:=dx;replace au:=hk2.c au;replace dg:=hk2.c dg;clear hk2 en
 by_cases da:ve=0
 rotate_left
 ·have Bt:(ve !=0)=true:=by simpa using da
  have b6:=C (aH.o.trans aU.o);clear ar c1 c2 an av ay ax az au dg;go_wp2
  go_ret2
  exact ⟨none,0,[],rfl,⟨cr.nil _ _ _,by simp⟩,b6.o,by simp⟩
 obtain ⟨na,hbk⟩:=zr.o da;subst da;have qs:=C na;have fY:=C hbk;clear na hbk zr;go_wp2_with fail
 refine Calls.mono (Ps _) ?_;rintro e w3 ⟨g,rfl,Aq,aP,hg⟩;have aR:=C (aU.o.trans aP);have dx:=aP.au ar c1 c2 an av ay ax az;clear ar c1 c2 an av ay ax az;obtain ⟨ar,c1,c2,an,av,ay,ax,az⟩:=dx;replace au:=aP.c au;replace dg:=aP.c dg;have Jw:=C Aq;clear aP Aq hg aU;go_wp2_with fail
 refine Calls.mono (ly.o _ aR.o (by have:=fY.o;omega)) ?_;rintro e w4 ⟨R7,amo,nt,rfl,hpn,qE,bc,Ab,Ak⟩;have mM:nt.length=(ia T).length:=by rw [←hpn,List.length_map]
 have cl:=C (aR.o.trans bc);have A1:=C hpn;have nm:=C qE;have G9:=C (bc.h Jw.o);have dx:=bc.au ar c1 c2 an av ay ax az;clear ar c1 c2 an av ay ax az;obtain ⟨ar,c1,c2,an,av,ay,ax,az⟩:=dx;replace au:=bc.c au;replace dg:=bc.c dg;have hI:=C (show nt.length≤20000 by have:=(x5 T).1;have:=(AJ T).1;have:=fY.o;omega);have BT:=C (show ∀ r∈nt,r.path.length≤1000000∧r.path∈ia T from fun r aO=> by
  have h1:r.path∈ia T:=by rw [←hpn];exact List.mem_map_of_mem aO
  have:=(x5 T).2 _ h1
  have:=fY.o
  exact ⟨by omega,h1⟩)
 rw [←mM];clear bc hpn qE Ab Ak mM ly Jw aR;go_wp2
 go_loopw [6,27] (fun v i wr=> ∃ (k:Nat) (a:Option Nat) (c:Nat) (rows:List ei),k≤nt.length∧i=H J k∧v=de a rows.length c∧wK wr 61 w4.heap.size a c rows∧I [] w4 wr∧rows.map ei.s=((ia T).take k).flatMap (fun p=> j1 T cp ru p 17)∧rows.length≤17 * k) (fun _ i _=> nt.length - (intOf i).toNat)
 case atStart=> exact ⟨0,none,0,[],Nat.zero_le _,rfl,rfl,⟨⟨cr.nil _ _ _,by simp⟩,by simp,by simp⟩,I.refl _ _,rfl,by simp⟩
 case round=>
  obtain ⟨lK,yS⟩:∃ lK,lK=wr:=⟨_,rfl⟩;subst yS;obtain ⟨k,a,c,rows,hk,rfl,rfl,eE,pv,p5,kI⟩:=hrel;have fq:=C eE;have kl:=C pv;have ga:=C p5;have oM:=C kI;clear eE pv p5 kI
  by_cases aQ:k < nt.length
  ·have Yw:=nm.o.ah kl.o;have d1:=Yw.cell k aQ;have rA:=C (nm.o.kz nt[k] (List.getElem_mem aQ)).1;have rz:=C (BT.o nt[k] (List.getElem_mem aQ));have i5:k < (ia T).length:=by rw [←A1.o,List.length_map];exact aQ
   have fB:(ia T)[k]=nt[k].path:=by simp only [←A1.o,List.getElem_map]
   have tf:=C (show ((ia T).take (k + 1)).flatMap (fun p=> j1 T cp ru p 17)=((ia T).take k).flatMap (fun p=> j1 T cp ru p 17) ++ j1 T cp ru nt[k].path 17 by
    rw [List.take_succ_eq_append_getElem i5,List.flatMap_append,fB];simp)
   generalize nt[k]=pr at *
   obtain ⟨bP,pc,path⟩:=pr;simp only at d1 rA rz;have tf:=C (show ((ia T).take (k + 1)).flatMap (fun p=> j1 T cp ru p 17)=((ia T).take k).flatMap (fun p=> j1 T cp ru p 17) ++ j1 T cp ru path 17 from tf.o);obtain ⟨x,hx⟩:=amk path rz.o.2;have Ib:=Nl path qs.o hx;have hM:=C hx;have B0:=C Ib;have mD:=C (fun (W:World) (h:I [] lK W)=> gP.o W ((cl.o.trans kl.o).trans h) path bP pc (rA.o.bG (kl.o.trans h) (fun _ _=> by simp)) rz.o.1 (by have:=fY.o;omega));rw [hx] at mD;obtain ⟨bg,aV,a6,bl,bq,bE,bF,bH⟩:=kl.o.au ar c1 c2 an av ay ax az;have jz:=kl.o.c au;have jA:=kl.o.c dg;clear Yw i5 fB hx Ib;go_wp2_with fail
   refine Calls.mono (mD.o _ (I.refl [] lK)) ?_;rintro e bS ⟨ae,rfl,a7,aT,hk5,hqf⟩;obtain ⟨q0,bN⟩:∃ q0,q0=ae:=⟨_,rfl⟩;rw [←bN] at a7 aT hqf;have dt:=C bN;have dK:=C (show q0.ab=x from a7);have dA:=C aT;have et:=C (show ∀ b∈q0.aw,lK.heap.size≤b from fun b ad=> by rcases hqf b ad with h | h;cases h;exact h);obtain ⟨bA,bB,bC,bD,bs,bt,bu,bo,bx,bw,bp,bz⟩:=ae;simp only [MRe.val,Option.isSome_some,if_true];have dr:=C (kl.o.trans hk5);clear a7 hqf aT bN mD bg aV a6 bl bq bE bF bH jz jA;go_upto_region 10 with fail
   obtain ⟨ak,cY⟩:∃ ak,ak=bS.alloc (bf bA bB bD bC bs bu bt bo bx bw bp bz):=⟨_,rfl⟩;obtain ⟨qh,sj⟩:∃ qh,qh=bS.heap.size:=⟨_,rfl⟩;have dh:I [] bS ak:=by rw [cY];exact I.a1 _ _
   have nN:ak.heap[qh]? =some (bf bA bB bD bC bs bu bt bo bx bw bp bz):=by rw [cY,sj];exact heap_alloc_new bS _
   have AT:=C nN;rw [←cY,←sj];have dG:=C (dr.o.trans dh);have wJ:=C (dA.o.ah dh);have ho:=C (fq.o.ah (hk5.trans dh));have aeY:=C (show lK.heap.size≤qh by rw [sj];exact hk5.size);have EP:=C (show ∀ y,a=some y→y < lK.heap.size∨ak.heap.size≤y from fun y hy=> by left;subst hy;exact fq.o.1.iJ.lt);clear cY sj dh nN dA dr hk5 fq d1;go_wp2
   go_loopw [6,42] (fun v j BB=> ∃ (r:Nat) (a:Option Nat) (c:Nat) (rows:List ei),r≤17∧j=H J r∧v=de a rows.length c∧wK BB 61 w4.heap.size a c rows∧I [] w4 BB∧I (List.range lK.heap.size) ak BB∧(∀ y,a=some y→y < lK.heap.size∨ak.heap.size≤y)∧rows.map ei.s=((ia T).take k).flatMap (fun p=> j1 T cp ru p 17) ++ j1 T cp ru path r∧rows.length≤17 * k + r) (fun _ j _=> 17 - (intOf j).toNat)
   case atStart=> exact ⟨0,a,c,rows,by omega,rfl,rfl,ho.o,dG.o,I.refl _ _,EP.o,by rw [ga.o];simp [j1],by have:=oM.o;omega⟩
   case round=>
    obtain ⟨r,a,c,rows,aO,rfl,rfl,eE,jI,mK,Oc,p5,kI⟩:=hrel;have fq:=C eE;have kf:=C mK;have c4:=C jI;have yp:=C Oc;have Dc:=C p5;have EW:=C kI;clear eE mK p5 kI jI Oc
    by_cases mh:r < 17
    ·obtain ⟨nb,hnb⟩:=aom r mh;have Ha:=C (c4.o.h G9.o);have dv:wr.cell? ⟨g,r * 2,none⟩=some (.string nb):=by simp only [World.cell?,Ha.o];exact hnb
     have dI:wr.cell? ⟨g,r * 2 + 1,none⟩=some (.func (Fn.func (wm r)) #[] #[]):=Pt Ha.o r mh;have mE:=fun (W:World) (h:I (List.range lK.heap.size) ak W)=> (show Calls Tryz.prog (wm r) #[q0.val] W (Mq W q0.aw (rV r x)) from by
      have h0:=acN r mh q0 W (wJ.o.bG h (fun b ad hm=> by have:=et.o b ad;have:=List.mem_range.1 hm;omega)) (by rw [dK.o];exact B0.o.1) (by rw [dK.o];have:=B0.o.2;have:=fY.o;omega);rw [dK.o] at h0;exact Calls.mono h0 fun _ _ h=> dc.any h)
     obtain ⟨pV,oA⟩:∃ pV,pV=rV r x:=⟨_,rfl⟩;rw [←oA] at mE;have yq:=C (show ∀ y,pV=some y→y.bm≤1000000 from fun y h=> by rw [oA] at h;have:=UQ mh h;have:=B0.o.2;have:=fY.o;omega);have jq:=C (show CL T cp ru path r=L2 T cp ru path pV by unfold CL;rw [hM.o,oA]);have tP:=C (show j1 T cp ru path (r + 1)=j1 T cp ru path r ++ if CL T cp ru path r then [((r:Int),path)] else [] from rfl);rw [jq.o] at tP;rw [dt.o] at mE;simp only [MRe.val] at mE;have mE:=C mE;have he:=XD r mh;unfold n2 at he;obtain ⟨td,hF⟩:∃ td,td=wm r:=⟨_,rfl⟩;rw [←hF] at mE he dI;have px:(r:Int) < 17:=by omega
     have uY:(0:Int)≤(r:Int):=by omega
     have fe:=C (kf.o.heap AT.o (fun hm=> by have:=aeY.o;have:=List.mem_range.1 hm;omega));obtain ⟨bg,aV,a6,bl,bq,bE,bF,bH⟩:=eR fe.o;clear hnb oA hF jq;go_upto_region 14 with fail
     obtain ⟨fO,lh⟩:∃ fO,fO=wr.alloc (.cells #[.string nb,.func (Fn.func td) #[] #[]] 80):=⟨_,rfl⟩;obtain ⟨gS,sR⟩:∃ aG,aG=wr.heap.size:=⟨_,rfl⟩;have lD:I [] wr fO:=by rw [lh];exact I.a1 _ _
     have Cs:fO.heap[gS]? =some (.cells #[.string nb,.func (Fn.func td) #[] #[]] 80 (0,0)):=by rw [lh,sR];exact heap_alloc_new wr _
     rw [←lh,←sR];have k3:=C (kf.o.trans (lD.mono (by simp)));have ahv:=C (c4.o.trans lD);have cT:fO.cell? ⟨gS,1,none⟩=some (.func (Fn.func td) #[] #[]):=by simp [World.cell?,Cs]
     have dx:=lD.au bg aV a6 bl bq bE bF bH;clear bg aV a6 bl bq bE bF bH;obtain ⟨bg,aV,a6,bl,bq,bE,bF,bH⟩:=dx;have oo:=C (fq.o.ah lD);clear lh sR lD Cs dv dI fq Ha;go_wp2_with fail
     refine Calls.mono (mE.o _ k3.o) ?_;rintro gz hG ⟨q2,rfl,a7,aT,hV,hqf⟩;obtain ⟨kK,vW⟩:∃ kK,kK=q2:=⟨_,rfl⟩;rw [←vW] at a7 aT hqf;have zA:=C vW;have Dl:=C a7;have A9:=C aT;obtain ⟨cK,cL,cM,cN,cD,cE,cF,cG,cI,cH,cu,cJ⟩:=q2;simp only [MRe.val];have kv:=C (k3.o.trans (hV.mono (by simp)));have eJ:=C (ahv.o.trans hV);have Js:=C (oo.o.ah hV);clear a7 aT hV hqf vW oo mE he bg aV a6 bl bq bE bF bH cT;go_upto_region 15 with fail
     obtain ⟨eu,nM⟩:∃ eu,eu=hG.alloc (bf cK cL cN cM cD cF cE cG cI cH cu cJ):=⟨_,rfl⟩;obtain ⟨PF,Fo⟩:∃ aG,aG=hG.heap.size:=⟨_,rfl⟩;have i4:I [] hG eu:=by rw [nM];exact I.a1 _ _
     have Zh:eu.heap[PF]? =some (bf cK cL cN cM cD cF cE cG cI cH cu cJ):=by rw [nM,Fo];exact heap_alloc_new hG _
     rw [←nM,←Fo];have kT:=C (kv.o.trans (i4.mono (by simp)));have E7:=C (eJ.o.trans i4);have nC:=C (Js.o.ah i4);have Q4:=C (A9.o.ah i4);have aeU:=C Zh;clear nM Fo i4 Zh Js A9 kv
     cases pV with
     | none=>
      simp only [Option.isSome_none];have k8:=C (show rows.map ei.s=((ia T).take k).flatMap (fun p=> j1 T cp ru p 17) ++ j1 T cp ru path (r + 1) by rw [tP.o,Dc.o];simp [L2]);go_wp2;go_roundw
      case rel=> exact ⟨r + 1,a,c,rows,by omega,by go_num,rfl,nC.o,E7.o,kT.o,yp.o,k8.o,by have:=EW.o;omega⟩
      case measure=> simp [intOf];omega
     | some y=>
      simp only [Option.isSome_some];obtain ⟨ep,aJ,cP,eM,eF,eN,eO,eP⟩:=eR aeU.o;have abq:=cl.o.trans E7.o;have nB:=wE.o eu abq kK path bP pc (rA.o.bG E7.o (fun _ _=> by simp)) rz.o.1 Q4.o (by have:=fY.o;omega) (by have h:kK.ab=y:=Dl.o;rw [h];exact yq.o y rfl);rw [show kK.ab=y from Dl.o,zA.o] at nB;have nB:=C nB;have Qr:=C (show j1 T cp ru path (r + 1)=j1 T cp ru path r ++ if (sr T cp ru path y).isSome then [((r:Int),path)] else [] from tP.o);obtain ⟨P,gm⟩:∃ P,P=sr T cp ru path y:=⟨_,rfl⟩;rw [←gm] at nB Qr;obtain ⟨bg,aV,a6,bl,bq,bE,bF,bH⟩:=E7.o.au ar c1 c2 an av ay ax az;have jz:=E7.o.c au;have jA:=E7.o.c dg;clear gm tP abq;go_wp2_with fail
      refine Calls.mono nB.o ?_;rintro e gW ⟨pa,Hv,IB,rfl,a7,iA,iF,aT,gX,hqf⟩;clear a7 iA iF aT hqf;have eV:=C (kT.o.trans (gX.mono (by simp)));have ahu:=C (E7.o.trans gX);have V0:=C (nC.o.ah gX);obtain ⟨qQ,qR,qS,hE,qH,qI,qJ,qK,qM,qL,o8,qN⟩:=pa;simp only [fV,MRe.row,List.cons_append,List.nil_append];clear gX ep aJ cP eM eF eN eO eP bg aV a6 bl bq bE bF bH jz jA nB nC;go_upto_region 17 with fail
      obtain ⟨aA,c5⟩:∃ aA,aA=gW.alloc (.cells #[H J qQ,M qR hE.length qS,M qH qJ.length qI,H J qK,H J qM,H J qL,H J o8,F qN,H J Hv,F IB] 28):=⟨_,rfl⟩;have eZ:I [] gW aA:=by rw [c5];exact I.a1 _ _
      rw [←c5];have aZ:=C (eV.o.trans (eZ.mono (by simp)));have Dq:=C (ahu.o.trans eZ);have xx:=C (V0.o.ah eZ);clear c5 eZ V0 eV
      cases P with
      | none=>
       simp only [Option.isSome_none];have k8:=C (show rows.map ei.s=((ia T).take k).flatMap (fun p=> j1 T cp ru p 17) ++ j1 T cp ru path (r + 1) by rw [Qr.o,Dc.o];simp);go_wp2;go_roundw
       case rel=> exact ⟨r + 1,a,c,rows,by omega,by go_num,rfl,xx.o,Dq.o,aZ.o,yp.o,k8.o,by have:=EW.o;omega⟩
       case measure=> simp [intOf];omega
      | some z=>
       simp only [Option.isSome_some];have mD:=C (abl bP pc path aA (rA.o.bG Dq.o (fun _ _=> by simp)) (fun h=> by have:=rA.o;rw [h] at this;exact this.alU) rz.o.1);have V2:=C (show ∀ y,a=some y→y < aA.heap.size from fun y hy=> by have:=xx.o.1.iJ;subst hy;exact this.lt);have uZ:=EW.o;have Ty:=hI.o;go_wp2_with fail
       refine Calls.mono mD.o ?_;rintro e fN ⟨pd,rfl,hQ,aaG,aky,cU,hrf⟩;have gu:=C (aZ.o.trans (cU.mono (by simp)));have WZ:=C (Dq.o.trans cU);have BY:=C (xx.o.ah cU);have mY:=C (And.intro hQ (And.intro aaG hrf));obtain ⟨L6,O6,Gu⟩:=pd;simp only [kD.v];clear hQ aaG aky cU hrf xx mD
       go_wp2_with (at_builtin;refine yb rfl (.tmp 64) (.tmp 69) 48 rfl 61 gq _ 2 32 Tryz.underlying48 gH.o gI.o gJ.o gK.o rfl (by decide) a rows.length c _ rfl (BY.o.1.iJ.alloc _) ⟨fN.heap.size,0,none⟩ 1 1 [H J r,M L6 Gu.length O6] rfl rfl (x4 _ _ _ _ rfl) ?hone (by decide) (by omega) (by omega) ?hk)
       case hone=> exact ⟨rfl,rfl⟩
       case hk=>
        intro g3 an eB vZ ie nN;have uX:=(BY.o.ah (I.a1 fN (.cells #[H J r,M L6 Gu.length O6] 61))).push (r:=⟨r,L6,Gu,O6⟩) (by have:=WZ.o.size;simp;omega) ie (by simpa using nN) vZ (by
         refine ((show hr fN L6 Gu from by have h:=mY.o.2.1;rw [show Gu=path from mY.o.1];exact h).bG (I.a1 fN _) (fun _ _=> by simp)).bG ie (fun aX dC hm=> ?_);have h1:=(mY.o.2.2 aX dC).1;have h2:a=some aX.block:=by simpa using hm
         have h4:=V2.o _ h2
         omega) (fun aX dC=> ⟨by have:=(mY.o.2.2 aX dC).2;simp;omega,fun h=> by
         have h1:=(mY.o.2.2 aX dC).1;have h4:=V2.o _ h.symm
         omega⟩)
        have mX:=C uX;have BK:=C (show I [] w4 eB from (WZ.o.trans (I.a1 fN _)).cn ie (fun x hx=> .inr (BY.o.2.1 x (by simpa using hx))));have Qb:=C (show I (List.range lK.heap.size) ak eB from (gu.o.trans ((I.a1 fN _).mono (by simp))).cn ie (fun x hx=> by rcases yp.o x (by simpa using hx) with h | h;exact .inl (List.mem_range.2 h);exact .inr h));have mW:=C (show ∀ y,some g3=some y→y < lK.heap.size∨ak.heap.size≤y from fun y hy=> by
         cases hy
         rcases nN with h | h
         ·exact yp.o g3 h
         ·right;have:=gu.o.size;omega)
        have k8:=C (show (rows ++ [(⟨r,L6,Gu,O6⟩:ei)]).map ei.s=((ia T).take k).flatMap (fun p=> j1 T cp ru p 17) ++ j1 T cp ru path (r + 1) by rw [ei.abR,Qr.o,Dc.o,show Gu=path from mY.o.1];simp);clear vZ ie nN uX;go_wp2;go_roundw
        case rel=> exact ⟨r + 1,some g3,an,_,by omega,by go_num,by rw [List.length_append];rfl,mX.o,BK.o,Qb.o,mW.o,k8.o,by simp;omega⟩
        case measure=> simp [intOf];omega
    ·obtain rfl:r=17:=by omega
     have k8:=C (show rows.map ei.s=((ia T).take (k + 1)).flatMap (fun p=> j1 T cp ru p 17) by rw [tf.o,Dc.o]);have Ty:=hI.o;go_wp2;go_roundw
     case rel=> exact ⟨k + 1,a,c,rows,by omega,by go_num,rfl,fq.o,c4.o,k8.o,by have:=EW.o;omega⟩
     case measure=> simp [intOf];omega
  ·obtain rfl:k=nt.length:=by omega
   have py:rows.map ei.s=ug T cp ru:=by rw [ga.o,ug,show nt.length=(ia T).length by rw [←A1.o,List.length_map],List.take_length]
   have jr:=C py;clear py;go_wp2
   go_ret2
   exact ⟨a,c,rows,rfl,fq.o.1,(aH.o.trans cl.o).trans kl.o,by simpa using jr.o⟩
end Go.Proofs.YtjnlkjlbejelgaaGreat
