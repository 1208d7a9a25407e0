/- Part of the proof. No condition: every lemma says its own. -/
import Derived.Test.YtjnlkjlbejelgaaGreatSaa
namespace Go.Proofs.YtjnlkjlbejelgaaGreat
open Go.RowKit
open Go.Value renaming int→H,slice→M,bool→F
open Go.IntKind renaming i64→J
set_option maxRecDepth 100000
set_option maxHeartbeats 16000000
theorem an5 (m:MRe) (cp:Int) (ru:Bool) (at0 lQ fW:Int) (w:World) (aj:m.aK w) (ad:m.ab.bm≤12000) (hat:np at0) (tt:np lQ) (ps:np fW):
  Calls Tryz.prog 23 #[fV m cp ru,H J at0,H J lQ,H J fW] w (ahh w):=by
 obtain ⟨gq,hi,dQ,fj,eI⟩:=info_parts OD;have gH:=C hi;have gI:=C dQ;have gJ:=C fj;have gK:=C eI;obtain ⟨gV,aO,oa,D9,Ic⟩:=info_parts Eb;have Wq:=C aO;have Wr:=C oa;have Ws:=C D9;have Wt:=C Ic;clear hi dQ fj eI aO oa D9 Ic;obtain ⟨U,cd⟩:∃ U,U=w.heap.size:=⟨_,rfl⟩;obtain ⟨aE,cz⟩:∃ aE,aE=(w.alloc (.cells (m.row ++ [H J cp,Value.bool ru]).toArray 28)).alloc hN:=⟨_,rfl⟩;have cq:I [] w aE:=by rw [cz];exact I.a2 _ _ _
 have gg:aE.heap[U]? =some (.cells (m.row ++ [H J cp,Value.bool ru]).toArray 28 (0,0)):=by rw [cz,cd];exact (I.a1 _ _).heap (heap_alloc_new w _) (by simp)
 have aW:aE.heap[U + 1]? =some hN:=by rw [cz,cd];exact heap_alloc2_new w _ _
 have G3:=C (aj.ah cq);obtain ⟨bW,cQ⟩:∃ bW,bW=m:=⟨_,rfl⟩;have mm:=C gg;rw [←cQ] at G3 mm ad;have gD:=C (show bW.aK w by rw [cQ];exact aj);have vz:=C ad;have jo:=C cQ;have aB:=C cd;have aH:=C cq;have ba:=C aW;have gP:=C hat;have Jh:=C tt;have wA:=C ps;obtain ⟨op1,aM,aN,set1,aS,kc1,aq,mn1,aI,mode1,n1,aL⟩:=m;have c7:=C (show aE=(w.alloc (.cells #[H J op1,M aM set1.length aN,M aS aq.length kc1,H J mn1,H J aI,H J mode1,H J n1,F aL,H J cp,F ru] 28)).alloc hN from cz);obtain ⟨ar,c1,c2,an,av,ay,ax,az,au,dg,fh⟩:=fR (show aE.heap[U]? =some (.cells #[H J op1,M aM set1.length aN,M aS aq.length kc1,H J mn1,H J aI,H J mode1,H J n1,F aL,H J cp,F ru] 28 (0,0)) from gg);simp only [fV,MRe.row,List.cons_append,List.nil_append];have ly:=UN bW aE G3.o (by have:=vz.o;omega);obtain ⟨T1,sk⟩:∃ T1,T1=bW.ab:=⟨_,rfl⟩;have G8:=C sk;rw [←sk] at ly;have hI:=C (show 0 < (ia T1).length∧(ia T1).length≤12000∧∀ p∈ia T1,p.length≤12000 by
  have h1:=x5 T1;have h2:=(AJ T1).1;have h3:=vz.o;rw [←sk] at h3;refine ⟨?_,by omega,fun p hp=> by have:=h1.2 p hp;omega⟩;rw [h1.1]
  cases T1
  simp only [dD]
  omega)
 unfold Dk at ly;obtain ⟨s9,uX⟩:∃ s9,s9=ia T1:=⟨_,rfl⟩;rw [←uX] at ly hI;rw [jo.o] at ly;simp only [MRe.val] at ly;have ly:=C ly;clear uX sk cd cz cq gg aW aj ad hat tt ps cQ fh;go_enter Tryz.func23,Tryz.ntmps23
 go_upto_region 1 with fail
 rw [←c7.o,←aB.o];go_wp2_with fail
 refine Calls.mono ly.o ?_;rintro e w3 ⟨R7,eG,rows,rfl,hQ,qE,aP,Ab,Ak⟩;have kI:rows.length=s9.length:=by rw [←hQ,List.length_map]
 have oM:=C kI;have mY:=C hQ;have mX:=C qE;have aR:=C aP;have dx:=aP.au ar c1 c2 an av ay ax az;clear ar c1 c2 an av ay ax az;obtain ⟨ar,c1,c2,an,av,ay,ax,az⟩:=dx;replace au:=aP.c au;replace dg:=aP.c dg;have PM:=C (tS at0 s9.length w3 (by have:=hI.o.1;omega) gP.o);have lC:=uP at0 s9.length (by have:=hI.o.1;omega);obtain ⟨j,c8⟩:∃ j:Nat,nD at0 s9.length=(j:Int):=⟨(nD at0 s9.length).toNat,by omega⟩;rw [c8] at lC;have uE:=C c8;have vU:j < s9.length:=by omega
 have Bl:j < rows.length:=by omega
 have sW:=mX.o.cell j Bl;obtain ⟨px,uZ,_⟩:=mX.o.kz rows[j] (List.getElem_mem Bl);have mM:rows[j].path.length≤12000:=hI.o.2.2 _ (by rw [←mY.o];exact List.mem_map_of_mem (List.getElem_mem Bl));have Tx:=Ak rows[j] (List.getElem_mem Bl)
 generalize rows[j]=pd at *
 obtain ⟨bP,pc,path⟩:=pd;simp only at sW px uZ mM Tx;have rA:=C px;have Qv:=C Tx;have yt:=C (show path.length≤pc∧path.length≤1000000 from ⟨uZ,by omega⟩);have aax:=hI.o.2.1;have P5:=C vU;clear aP hQ kI c8 lC qE Ab px Bl vU Ak Tx;go_wp2_with fail
 refine Calls.mono PM.o ?_;rintro e w4 ⟨rfl,rfl⟩;rw [uE.o];have l6:(0:Int)≤(j:Int):=by omega
 have hj1:(j:Int) < (s9.length:Int):=by have:=P5.o;omega
 go_upto_region 3 with fail
 have wz:=UK path bW bP pc w3 (G3.o.ah aR.o) rA.o uZ (by omega);rw [←G8.o] at wz;obtain ⟨Ep,yN⟩:∃ Ep,Ep=bW.aw:=⟨_,rfl⟩;have j3:=C (show ∀ b∈Ep,b < U by rw [yN,aB.o];exact gD.o.fi);rw [←yN] at wz;have A4:=C yN;rw [jo.o] at wz;have MT:=C (show ((jW T1 path).getD .nil).bm≤12000 by
  have h2:=vz.o;rw [←G8.o] at h2
  have:=at_bulk path T1
  omega)
 simp only [MRe.val] at wz;have wz:=C wz;clear yN;go_wp2_with fail
 refine Calls.mono wz.o ?_;rintro e w4 ⟨m3,rfl,xa,hmo,bc,m8⟩;obtain ⟨x,hx⟩:∃ x,x=m3:=⟨_,rfl⟩;rw [←hx] at xa hmo m8;have hM:=C hx;have EY:=C xa;have B0:=C hmo;have QQ:=C m8;have cl:=C (aR.o.trans bc);have Dh:=C bc;obtain ⟨sL,rJ⟩:∃ sL:Int,sL=(if (jW T1 path).isSome then 0 else 7):=⟨_,rfl⟩;rw [←rJ];obtain ⟨op3,dk,dm,set3,di,dj,kids3,cA,cC,cB,cv,cx⟩:=m3;simp only [MRe.val];have hB:set3.length≤12000∧kids3.length≤12000:=by
  have h:=MT.o;rw [←EY.o,hM.o] at h;simp only [MRe.ab,Tree.bm] at h;have h2:=Tree.Ug (MRe.al kids3);rw [MRe.ee] at h2;omega
 obtain ⟨hns,DW⟩:=hB;have dx:=bc.au ar c1 c2 an av ay ax az;clear ar c1 c2 an av ay ax az;obtain ⟨ar,c1,c2,an,av,ay,ax,az⟩:=dx;replace au:=bc.c au;replace dg:=bc.c dg;clear hx xa hmo m8 bc rJ sW l6 hj1;go_upto_region 4 with fail
 obtain ⟨oT,c5⟩:∃ oT,oT=w4.alloc (bf op3 dk set3 dm di kids3 dj cA cC cB cv cx):=⟨_,rfl⟩;obtain ⟨aG,fP⟩:∃ aG,aG=w4.heap.size:=⟨_,rfl⟩;have eZ:I [] w4 oT:=by rw [c5];exact I.a1 _ _
 have pZ:oT.heap[aG]? =some (bf op3 dk set3 dm di kids3 dj cA cC cB cv cx):=by rw [c5,fP];exact heap_alloc_new w4 _
 rw [←c5,←fP];have MU:=C (show ∀ b∈x.aw,b < aG by rw [fP];exact B0.o.fi);have qW:=C (show w3.heap.size≤aG∧U + 2≤aG by rw [fP];have h1:=Dh.o.size;have h2:=aR.o.size;have h3:=lt_of_block ba.o;exact ⟨h1,by omega⟩);have agu:=C (Dh.o.trans eZ);have MV:=C (B0.o.ah eZ);have EB:=C pZ;have yM:=C (show eK oT dk dm set3 by have h:=MV.o;rw [hM.o] at h;exact h.nV);have hk5:=C (show gT oT di dj kids3 by have h:=MV.o;rw [hM.o] at h;exact h.kids);obtain ⟨ep,aJ,cP,eM,eF,eN,eO,eP⟩:=eR pZ;have vO:=h6 pZ;have dx:=eZ.au ar c1 c2 an av ay ax az;clear ar c1 c2 an av ay ax az;obtain ⟨ar,c1,c2,an,av,ay,ax,az⟩:=dx;replace au:=eZ.c au;replace dg:=eZ.c dg;clear c5 fP eZ pZ;have sM:=(I.a1 oT (.cells #[] 86)).c aJ
 go_wp2_with (at_builtin;refine tF rfl (.tmp 30) (.tmp 32) 23 rfl 86 gq _ 2 16 Tryz.underlying23 gH.o gI.o gJ.o gK.o rfl (by decide) (some oT.heap.size) 0 0 [] rfl (cr.empty oT _ _) dk set3.length dm (gU set3) rfl (zL _) ((yM.o.ah (I.a1 _ _)).src) (Ke _) (by omega) (by omega) ?hk)
 case hk=>
  intro dM jH hG dd hV KE;have vV:I [] oT hG:=(I.a1 oT _).cn hV (by intro x hx;simp at hx;subst hx;exact .inr (Nat.le_refl _));obtain ⟨dz,rfl,xN⟩:∃ gb,dM=some gb∧oT.heap.size≤gb:=by
   rcases KE with h | ⟨g,h,h2⟩
   ·exact ⟨_,h,Nat.le_refl _⟩
   ·refine ⟨g,h,?_⟩
    have:oT.heap.size≤(oT.alloc (.cells #[] 86)).heap.size:=by simp
    omega
  have ahc:=C (show cr hG 86 2 (some dz) set3.length jH (gU set3) by simpa using dd);have kv:=C (agu.o.trans vV);have zu:=C vV;have EG:=C xN;have dx:=vV.au ar c1 c2 an av ay ax az;clear ar c1 c2 an av ay ax az;obtain ⟨ar,c1,c2,an,av,ay,ax,az⟩:=dx;replace au:=vV.c au;replace dg:=vV.c dg;have dx:=vV.au ep aJ cP eM eF eN eO eP;clear ep aJ cP eM eF eN eO eP;obtain ⟨ep,aJ,cP,eM,eF,eN,eO,eP⟩:=dx;replace vO:=h6 (vV.h EB.o);simp only [de,Option.map_some];clear sM dd hV KE vV xN;go_upto_region 5 with fail
  obtain ⟨vI,c5⟩:∃ vI,vI=hG.setCell ⟨aG,1,none⟩ (M (some ⟨dz,0,none⟩) set3.length jH):=⟨_,rfl⟩;rw [←c5];have c3:I [aG] hG vI:=by rw [c5];exact (I.refl [aG] hG).setCell (p:=⟨aG,1,none⟩) (.inl (by simp)) _
  have h7:vI.heap[aG]? =some (bf op3 (some ⟨dz,0,none⟩) set3 jH di kids3 dj cA cC cB cv cx):=by rw [c5];exact heap_setCell_same _ aG 1 _ _ _ (zu.o.h EB.o)
  have IZ:=C h7;have Ym:aG < oT.heap.size:=lt_of_block EB.o;have WT:=C (ahc.o.ah c3 (by intro g hg hm;cases hg;simp at hm;have:=EG.o;omega));have MY:=C (show oT.heap.size≤vI.heap.size from Nat.le_trans zu.o.size c3.size);have eV:=C (kv.o.cn c3 (by intro x hx;simp at hx;subst hx;exact .inr qW.o.1));have gX:gT vI di dj kids3:=(hk5.o.ah zu.o).bG c3 (fun b ad hm=> by
   simp at hm;subst hm
   have:=MU.o b (by rw [hM.o];simp only [MRe.aw,List.mem_append] at ad ⊢;exact .inr ad)
   omega)
  have EL:=C gX;have sP:U ∉ [aG]:=by have:=qW.o.2;simp;omega
  have bg:=c3.cell ar sP;have aV:=c3.cell c1 sP;have a6:=c3.cell c2 sP;have bl:=c3.cell an sP;have bq:=c3.cell av sP;have bE:=c3.cell ay sP;have bF:=c3.cell ax sP;have bH:=c3.cell az sP;have jz:=c3.cell au sP;have jA:=c3.cell dg sP;clear ep aJ cP eM eF eN eO eP vO ar c1 c2 an av ay ax az au dg c5 c3 gX sP;obtain ⟨ep,aJ,cP,eM,eF,eN,eO,eP⟩:=eR h7;have vO:=h6 h7;clear h7;have sN:=(I.a1 vI (.cells #[] 26)).c cP
  go_wp2_with (at_builtin;refine tF rfl (.tmp 35) (.tmp 37) 24 rfl 26 gV _ 8 96 Tryz.underlying24 Wq.o Wr.o Ws.o Wt.o rfl (by decide) (some vI.heap.size) 0 0 [] rfl (cr.empty vI _ _) di kids3.length dj (fX kids3) rfl (Cg _) ((EL.o.ah (I.a1 _ _)).ch.src) (wT _) (by omega) (by omega) ?hk)
  case hk=>
   intro ahJ c8' fN dd cU YN;have DS:I [] vI fN:=(I.a1 vI _).cn cU (by intro x hx;simp at hx;subst hx;exact .inr (Nat.le_refl _));obtain ⟨fr,rfl,Aa⟩:∃ gb,ahJ=some gb∧vI.heap.size≤gb:=by
    rcases YN with h | ⟨g,h,h2⟩
    ·exact ⟨_,h,Nat.le_refl _⟩
    ·refine ⟨g,h,?_⟩
     have:vI.heap.size≤(vI.alloc (.cells #[] 26)).heap.size:=by simp
     omega
   have ahd:=C (show cr fN 26 8 (some fr) kids3.length c8' (fX kids3) by simpa using dd);have gu:=C (eV.o.trans DS);have M1:=C DS;have yl:=C Aa;have dx:=DS.au bg aV a6 bl bq bE bF bH;clear bg aV a6 bl bq bE bF bH;obtain ⟨bg,aV,a6,bl,bq,bE,bF,bH⟩:=dx;replace jz:=DS.c jz;replace jA:=DS.c jA;have dx:=DS.au ep aJ cP eM eF eN eO eP;clear ep aJ cP eM eF eN eO eP;obtain ⟨ep,aJ,cP,eM,eF,eN,eO,eP⟩:=dx;replace vO:=h6 (DS.h IZ.o);simp only [de,Option.map_some];clear sN dd cU YN DS Aa;go_upto_region 6 with fail
   obtain ⟨ak,cY⟩:∃ ak,ak=fN.setCell ⟨aG,2,none⟩ (M (some ⟨fr,0,none⟩) kids3.length c8'):=⟨_,rfl⟩;rw [←cY];have c3:I [aG] fN ak:=by rw [cY];exact (I.refl [aG] fN).setCell (p:=⟨aG,2,none⟩) (.inl (by simp)) _
   have jB:ak.heap[aG]? =some (bf op3 (some ⟨dz,0,none⟩) set3 jH (some ⟨fr,0,none⟩) kids3 c8' cA cC cB cv cx):=by rw [cY];exact heap_setCell_same _ aG 2 _ _ _ (M1.o.h IZ.o)
   have en:=C jB;have Yo:aG < oT.heap.size∧aG < vI.heap.size:=⟨Ym,lt_of_block IZ.o⟩;have Dm:=C ((WT.o.ah M1.o (by simp)).ah c3 (by intro g hg hm;cases hg;simp at hm;have:=EG.o;omega));have WU:=C (ahd.o.ah c3 (by intro g hg hm;cases hg;simp at hm;have:=yl.o;omega));have Wz:=C (gu.o.cn c3 (by intro x hx;simp at hx;subst hx;exact .inr qW.o.1));have vG:=C (show I [U] w3 ak from Wz.o.mono (by simp));have ma:=C (show gT ak (some ⟨fr,0,none⟩) c8' kids3 from ⟨by have h:=hH.we WU.o;simpa using h,fun k hk=> ((EL.o.ah M1.o).all k hk).bG c3 (fun b ad hm=> by
    simp at hm;subst hm
    have:=MU.o b (by rw [hM.o];exact mF (kids:=kids3) hk b ad)
    omega)⟩)
   have ho:=C (show eK ak (some ⟨dz,0,none⟩) jH set3 by have h:=eK.we Dm.o;simpa using h);have tI:=C (show ak.heap[U]? =some (.cells (bW.row ++ [H J cp,Value.bool ru]).toArray 28 (0,0)) from Wz.o.heap (aR.o.h mm.o) (by simp));have gx:=C (show (∀ b∈MRe.dN kids3,b≠U∧b≠U + 1∧b≠aG)∧(dz≠U∧dz≠U + 1∧dz≠aG)∧(fr≠U∧fr≠U + 1∧fr≠aG) from ⟨fun b ad=> by
    have h:b∈x.aw:=by rw [hM.o];simp only [MRe.aw,List.mem_append];exact .inr (.inr ad)
    have h2:=MU.o b h
    rcases QQ.o b h with h | h
    ·have:=j3.o b h;omega
    ·have:=lt_of_block ba.o;have:=aR.o.size;omega,by have:=EG.o;have:=qW.o.2;omega,by have:=yl.o;have:=qW.o.2;omega⟩)
   have nz:=C (show U≠aG by have:=qW.o.2;omega);have fY:=C (show 1 + set3.length + Tree.ed (MRe.al kids3)≤12000 by
    have h:=MT.o;rw [←EY.o,hM.o] at h
    simpa only [MRe.ab,Tree.bm] using h)
   have sP:U ∉ [aG]:=by have:=nz.o;simpa using this
   have u8:=c3.cell jz sP;have u9:=c3.cell jA sP;have Wn:=C (show oT.heap.size≤ak.heap.size by have h1:=MY.o;have h2:=M1.o.size;have h3:=c3.size;omega);have AU:=C Yo.1;have VF:=C (show w3.heap.size≤dz by have:=EG.o;have:=qW.o.1;omega);have Vf:=C (show dz≠fr by have h1:=WT.o.lt;have:=yl.o;omega);have VM:=C (show ∀ b∈MRe.dN kids3,b < aG from fun b ad=> MU.o b (by rw [hM.o];simp only [MRe.aw,List.mem_append];exact .inr (.inr ad)));have EM:=C (show ∀ b∈MRe.dN kids3,b≠fr from fun b ad=> by have:=VM.o b ad;have:=yl.o;have:=MY.o;have:=AU.o;omega);have yn:=C (show ∀ b∈df kids3.length (some ⟨fr,0,none⟩) ++ MRe.dN kids3,b≠dz from abD (P:=fun b=> b≠dz) (fun b ad=> by have:=VM.o b ad;have:=EG.o;have:=AU.o;omega) (fun h=> Vf.o h.symm));clear ep aJ cP eM eF eN eO eP vO bg aV a6 bl bq bE bF bH jz jA cY c3 sP;obtain ⟨ep,aJ,cP,eM,eF,eN,eO,eP⟩:=eR jB;have vO:=h6 jB;have aoH:=(h6 tI.o);clear jB;have I2:=C (tS lQ 12 ak (by omega) Jh.o);have lC:=uP lQ 12 (by omega);obtain ⟨nX,gY⟩:∃ nX,nX=nD lQ 12:=⟨_,rfl⟩;rw [←gY] at I2 lC;have mV:=C lC;clear gY lC Yo Ym;go_wp2_with fail
   refine Calls.mono I2.o ?_;rintro e hG ⟨rfl,rfl⟩
   go_upto_block 0 with fail
   obtain ⟨mr,N7⟩:∃ mr,mr=bW.row:=⟨_,rfl⟩;have Qo:=C N7;replace tI:=tI.o;rw [←N7] at tI;have nh:=C tI;clear tI
   go_cut [] from 42 to 151 (fun db=> M8 w3 aG U mr db)
   case first=>
    have lC:=mV.o;have Z8:mr.length=8:=by rw [N7,MRe.rU]
    have VO:=C Z8;clear N7 Z8;obtain rfl | rfl | rfl | rfl | rfl | rfl | rfl | rfl | rfl | rfl | rfl | rfl:nX=0∨nX=1∨nX=2∨nX=3∨nX=4∨nX=5∨nX=6∨nX=7∨nX=8∨nX=9∨nX=10∨nX=11:=by omega
    ·
     go_wp2_with fail
     refine Calls.mono (tS fW 6 _ (by decide) wA.o) ?_;rintro e gW ⟨rfl,rfl⟩;obtain ⟨l6,hj1⟩:=uP fW 6 (by decide);obtain ⟨nr,hjj⟩:∃ nr:Nat,nD fW 6=(nr:Int):=⟨_,(Int.toNat_of_nonneg l6).symm⟩;rw [hjj] at l6 hj1 ⊢;obtain ⟨v,da⟩:=Ef (heap_alloc_new ak (.cells #[H J fW,H J (-1),H J 12,H J 2,H J 9,H J 4] 3)) (by simp) nr (by simp;omega);have nL:=(I.a1 ak (.cells #[H J fW,H J (-1),H J 12,H J 2,H J 9,H J 4] 3)).h en.o;obtain ⟨fQ,p1,p2,jh,ji,lq,lr,lu⟩:=eR nL;have wj:=h6 nL;have pa:=(I.a1 ak (.cells #[H J fW,H J (-1),H J 12,H J 2,H J 9,H J 4] 3)).c u8;have AD:=h6 ((I.a1 ak (.cells #[H J fW,H J (-1),H J 12,H J 2,H J 9,H J 4] 3)).h nh.o);clear hjj nL;go_wp2;go_meet;have tT:ak.heap[aG]? =some (.cells (.node op3 (some ⟨dz,0,none⟩) jH set3 (some ⟨fr,0,none⟩) c8' kids3 cA cC cB cv cx:MRe).row.toArray 26 (0,0)):=en.o;exact CK (S:=[]) (y:=(.node op3 (some ⟨dz,0,none⟩) jH set3 (some ⟨fr,0,none⟩) c8' kids3 cA cC cB cv cx:MRe)) (y':=(.node v (some ⟨dz,0,none⟩) jH set3 (some ⟨fr,0,none⟩) c8' kids3 cA cC cB cv cx:MRe)) 0 _ (I.a1 _ _) vG.o qW.o.1 nz.o tT nh.o (by simp) rfl (fun eu ri=> ((show MRe.aK ak (.node v (some ⟨dz,0,none⟩) jH set3 (some ⟨fr,0,none⟩) c8' kids3 cA cC cB cv cx:MRe) from MRe.aK.hR ho.o ma.o).ah (I.a1 _ _)).bG ri (fun b ad=> by simp;exact (ss (P:=fun b=> b≠U∧b≠U + 1∧b≠aG) gx.o.1 gx.o.2.1 gx.o.2.2 b ad).2.2)) (by have h:=fY.o;simpa only [MRe.ab,Tree.bm] using (by omega:1 + set3.length + Tree.ed (MRe.al kids3)≤13000)) (ss (P:=fun b=> b≠U∧b≠U + 1∧b≠aG) gx.o.1 gx.o.2.1 gx.o.2.2)
    ·
     go_wp2_with (at_builtin;refine tF rfl (.tmp 54) (.tmp 58) 23 rfl 86 gq _ 2 16 Tryz.underlying23 gH.o gI.o gJ.o gK.o rfl (by decide) (some dz) set3.length jH (gU set3) rfl (Dm.o.ah (I.a1 ak _) (by simp)) (some ⟨ak.heap.size,0,none⟩) 1 1 (gU [(fW,fW)]) rfl rfl (fun _=> ⟨_,rfl,wa ak [H J fW,H J fW] 86⟩) (Ke _) (by omega) (by omega) ?hk1)
     case hk1=>
      intro a9 RE eB dd ie KG;obtain ⟨vQ,rfl,nN⟩:∃ gb,a9=some gb∧oT.heap.size≤gb:=by
       rcases KG with h | ⟨g,h,h2⟩
       ·exact ⟨_,h,EG.o⟩
       ·refine ⟨g,h,?_⟩;have h3:ak.heap.size≤(ak.alloc (.cells #[H J fW,H J fW] 86)).heap.size:=by simp
        have h4:=Wn.o;omega
      have FD:I [dz] ak eB:=((I.a1 ak _).mono (by simp)).trans ie;have nL:=FD.heap en.o (by simp;exact fun h=> gx.o.2.1.2.2 h.symm);obtain ⟨fQ,p1,p2,jh,ji,lq,lr,lu⟩:=eR nL;have wj:=h6 nL;rw [←Dx] at dd;have dF:=eK.we dd;simp only [de,Option.map_some] at dF ⊢;have afX:=C dF;have q3:=C FD;have AT:=C nN;clear dd ie FD KG dF nN;go_wp2;go_meet;have tT:ak.heap[aG]? =some (.cells (.node op3 (some ⟨dz,0,none⟩) jH set3 (some ⟨fr,0,none⟩) c8' kids3 cA cC cB cv cx:MRe).row.toArray 26 (0,0)):=en.o;have lg:vQ≠U∧vQ≠U + 1∧vQ≠aG:=by have:=AT.o;have:=qW.o.2;have:=AU.o;omega
      refine CK (S:=[dz]) (y:=(.node op3 (some ⟨dz,0,none⟩) jH set3 (some ⟨fr,0,none⟩) c8' kids3 cA cC cB cv cx:MRe)) (y':=(.node op3 (some ⟨vQ,0,none⟩) RE (set3 ++ [(fW,fW)]) (some ⟨fr,0,none⟩) c8' kids3 cA cC cB cv cx:MRe)) 1 _ q3.o vG.o qW.o.1 nz.o tT nh.o (fun x hx=> by simp at hx;subst hx;exact ⟨gx.o.2.1.2.2,gx.o.2.1.1,by have:=EG.o;have:=AU.o;have:=qW.o.1;omega⟩) (by simp [MRe.row]) (fun eu ri=> MRe.aK.hR (afX.o.bG ri (fun b ad=> by have h:=Gh ad;simp;rw [h];exact lg.2.2)) ((ma.o.bG q3.o (fun b ad=> by simp;exact yn.o b ad)).bG ri (fun b ad=> by have h:=abD (P:=fun b=> b≠U∧b≠U + 1∧b≠aG) gx.o.1 gx.o.2.2 b ad;simp;exact h.2.2))) (by have h:=fY.o;simp only [MRe.ab,Tree.bm,List.length_append,List.length_cons,List.length_nil];omega) (ss (P:=fun b=> b≠U∧b≠U + 1∧b≠aG) gx.o.1 lg gx.o.2.2)
    ·
     by_cases aW:set3.length=0
     ·have dQ:¬ (0:Int) < (set3.length:Int):=by omega
      clear aW;go_wp2;go_meet;exact ⟨(.node op3 (some ⟨dz,0,none⟩) jH set3 (some ⟨fr,0,none⟩) c8' kids3 cA cC cB cv cx:MRe),cp,ru,_,rfl,MRe.aK.hR ho.o ma.o,en.o,nh.o,vG.o,(by have h:=fY.o;simpa only [MRe.ab,Tree.bm] using (by omega:1 + set3.length + Tree.ed (MRe.al kids3)≤13000)),ss (P:=fun b=> b≠U∧b≠U + 1∧b≠aG) gx.o.1 gx.o.2.1 gx.o.2.2⟩
     ·have dQ:(0:Int) < (set3.length:Int):=by omega
      go_upto_region 13 with fail
      obtain ⟨dv,zk,hx⟩:∃ x r,set3=x::r:=by
       cases set3 with
       | nil=> exact absurd rfl aW
       | cons a b=> exact ⟨a,b,rfl⟩
      subst hx;simp only [List.length_cons] at aJ dQ ⊢;have yx:=C ((I.refl [] ak).drew);have VJ:=C (show aG≠dz from fun h=> gx.o.2.1.2.2 h.symm);have gh:(0:Int) < ((zk.length + 1:Nat):Int):=by omega
      obtain ⟨l6,hj1⟩:=uP fW 5 (by decide);obtain ⟨nr,hjj⟩:∃ nr:Nat,nD fW 5=(nr:Int):=⟨_,(Int.toNat_of_nonneg l6).symm⟩;rw [hjj] at l6 hj1;have Vn:=C (fun (W:World)=> (hjj ▸ tS fW 5 W (by decide) wA.o));clear hjj;refine rg (S:=fun w'=> w'.cell? ⟨aG,1,none⟩=some (M (some ⟨dz,0,none⟩) (zk.length + 1) jH)) (fun _ k=> k.c aJ) fun bM aF=> ?_;refine ag 0 ?_;refine ag 1 ?_;refine ag 2 ?_;refine ag 4 ?_;refine kX 3 5 (fun ai af=> ?_) fun ai af=> ?_
      ·go_simp;obtain ⟨E6,Bh⟩:∃ W,W=(ak.alloc (.cells #[H J fW,H J 255,H J 256,H J 1114111,H J 1114112] 3)).drew:=⟨_,rfl⟩;obtain ⟨zx,zO⟩:∃ fs,fs=ak.heap.size:=⟨_,rfl⟩;have ajD:=Bh;have Ks:zx=ak.heap.size:=zO
       try rw [←zO]
       try rw [←Ks]
       rw [←Bh];have eS:=C (show I [] ak E6 by rw [Bh];exact (I.a1 _ _).drew);obtain ⟨v,da⟩:=Ef (show E6.heap[zx]? =some (.cells #[H J fW,H J 255,H J 256,H J 1114111,H J 1114112] 3 (0,0)) by rw [Bh,zO];exact heap_alloc_new _ _) (by simp) nr (by simp;omega);have E3:=Dm.o.ah eS.o (by simp);have cT:=E3.cell 1 (by rw [zL];simp only [List.length_cons];omega);have anS:=E3.fz 1;have g1:=eS.o.c aJ;have kT:=C ((I.refl [dz] E6).setCell (p:=⟨dz,1,none⟩) (.inl (by simp)) (H J v));have Qg:=C (show zx≠dz from fun h=> by have h1:=Dm.o.lt;have h2:zx=ak.heap.size:=(by rw [zO]);omega);have EF:=C (adB (v:=v) eS.o vG.o en.o nh.o gx.o fY.o VF.o Dm.o ma.o yn.o);clear E3 Bh zO;clear ajD Ks;refine af.out _ _ (g1) (fun aF=> ?_);clear af ai;try go_frame
       refine bh 5 fun ai af=> ?_;go_simp;refine Calls.mono (Vn.o _) ?_;rintro gz gW ⟨rfl,rfl⟩;refine af.out _ _ (g1) (fun aF=> ?_);clear af ai;try go_frame
       refine GK (S':=fun w'=> w'.cell? ⟨aG,1,none⟩=some (M (some ⟨dz,0,none⟩) (zk.length + 1) jH)∧w'.cell? ⟨zx,nr,none⟩=some (H J v)) (fun w' h=> h.1) ?_;have aF:=And.intro g1 da;refine ag 6 ?_;refine ag 7 ?_;refine ag 8 ?_;refine ag 9 ?_;refine bh 10 fun ai af=> ?_;go_simp;refine af.out _ _ ⟨kT.o.cell g1 (by simp;exact VJ.o),kT.o.cell da (by simp;exact Qg.o)⟩ (fun aF=> ?_);clear af ai
       try simp only [Act.put]
       refine dR ?_;go_wp2;go_meet;exact EF.o
      ·go_simp;refine Calls.mono (Vn.o _) ?_;rintro gz gW ⟨rfl,rfl⟩;refine af.out _ _ (bM.o _ yx.o) fun aF=> ?_;clear af ai;try go_frame
       refine bh 3 fun ai af=> ?_;go_simp;obtain ⟨E6,Bh⟩:∃ W,W=(ak.alloc (.cells #[H J fW,H J 255,H J 256,H J 1114111,H J 1114112] 3)).drew:=⟨_,rfl⟩;obtain ⟨zx,zO⟩:∃ fs,fs=ak.heap.size:=⟨_,rfl⟩;have Ks:zx=ak.heap.size:=zO
       try rw [←zO]
       try rw [←Ks]
       rw [←Bh];have eS:=C (show I [] ak E6 by rw [Bh];exact (I.a1 _ _).drew);obtain ⟨v,da⟩:=Ef (show E6.heap[zx]? =some (.cells #[H J fW,H J 255,H J 256,H J 1114111,H J 1114112] 3 (0,0)) by rw [Bh,zO];exact heap_alloc_new _ _) (by simp) nr (by simp;omega);have E3:=Dm.o.ah eS.o (by simp);have cT:=E3.cell 1 (by rw [zL];simp only [List.length_cons];omega);have anS:=E3.fz 1;have g1:=eS.o.c aJ;have kT:=C ((I.refl [dz] E6).setCell (p:=⟨dz,1,none⟩) (.inl (by simp)) (H J v));have Qg:=C (show zx≠dz from fun h=> by have h1:=Dm.o.lt;have h2:zx=ak.heap.size:=(by rw [zO]);omega);have EF:=C (adB (v:=v) eS.o vG.o en.o nh.o gx.o fY.o VF.o Dm.o ma.o yn.o);clear E3 Bh zO;clear Ks;refine af.out _ _ (g1) (fun aF=> ?_);clear af ai;try go_frame
       refine GK (S':=fun w'=> w'.cell? ⟨aG,1,none⟩=some (M (some ⟨dz,0,none⟩) (zk.length + 1) jH)∧w'.cell? ⟨zx,nr,none⟩=some (H J v)) (fun w' h=> h.1) ?_;have aF:=And.intro g1 da;refine ag 6 ?_;refine ag 7 ?_;refine ag 8 ?_;refine ag 9 ?_;refine bh 10 fun ai af=> ?_;go_simp;refine af.out _ _ ⟨kT.o.cell g1 (by simp;exact VJ.o),kT.o.cell da (by simp;exact Qg.o)⟩ (fun aF=> ?_);clear af ai
       try simp only [Act.put]
       refine dR ?_;go_wp2;go_meet;exact EF.o
    ·
     go_wp2_with fail
     refine Calls.mono (tS fW 4 _ (by decide) wA.o) ?_;rintro e gW ⟨rfl,rfl⟩;obtain ⟨l6,hj1⟩:=uP fW 4 (by decide);obtain ⟨nr,hjj⟩:∃ nr:Nat,nD fW 4=(nr:Int):=⟨_,(Int.toNat_of_nonneg l6).symm⟩;rw [hjj] at l6 hj1 ⊢;obtain ⟨v,da⟩:=Ef (heap_alloc_new ak (.cells #[H J fW,H J 32,H J 33,H J (-1)] 3)) (by simp) nr (by simp;omega);have nL:=(I.a1 ak (.cells #[H J fW,H J 32,H J 33,H J (-1)] 3)).h en.o;obtain ⟨fQ,p1,p2,jh,ji,lq,lr,lu⟩:=eR nL;have wj:=h6 nL;have pa:=(I.a1 ak (.cells #[H J fW,H J 32,H J 33,H J (-1)] 3)).c u8;have AD:=h6 ((I.a1 ak (.cells #[H J fW,H J 32,H J 33,H J (-1)] 3)).h nh.o);clear hjj nL;go_wp2;go_meet;have tT:ak.heap[aG]? =some (.cells (.node op3 (some ⟨dz,0,none⟩) jH set3 (some ⟨fr,0,none⟩) c8' kids3 cA cC cB cv cx:MRe).row.toArray 26 (0,0)):=en.o;exact CK (S:=[]) (y:=(.node op3 (some ⟨dz,0,none⟩) jH set3 (some ⟨fr,0,none⟩) c8' kids3 cA cC cB cv cx:MRe)) (y':=(.node op3 (some ⟨dz,0,none⟩) jH set3 (some ⟨fr,0,none⟩) c8' kids3 v cC cB cv cx:MRe)) 3 _ (I.a1 _ _) vG.o qW.o.1 nz.o tT nh.o (by simp) rfl (fun eu ri=> ((show MRe.aK ak (.node op3 (some ⟨dz,0,none⟩) jH set3 (some ⟨fr,0,none⟩) c8' kids3 v cC cB cv cx:MRe) from MRe.aK.hR ho.o ma.o).ah (I.a1 _ _)).bG ri (fun b ad=> by simp;exact (ss (P:=fun b=> b≠U∧b≠U + 1∧b≠aG) gx.o.1 gx.o.2.1 gx.o.2.2 b ad).2.2)) (by have h:=fY.o;simpa only [MRe.ab,Tree.bm] using (by omega:1 + set3.length + Tree.ed (MRe.al kids3)≤13000)) (ss (P:=fun b=> b≠U∧b≠U + 1∧b≠aG) gx.o.1 gx.o.2.1 gx.o.2.2)
    ·
     go_wp2_with fail
     refine Calls.mono (tS fW 6 _ (by decide) wA.o) ?_;rintro e gW ⟨rfl,rfl⟩;obtain ⟨l6,hj1⟩:=uP fW 6 (by decide);obtain ⟨nr,hjj⟩:∃ nr:Nat,nD fW 6=(nr:Int):=⟨_,(Int.toNat_of_nonneg l6).symm⟩;rw [hjj] at l6 hj1 ⊢;obtain ⟨v,da⟩:=Ef (heap_alloc_new ak (.cells #[H J fW,H J 32,H J 33,H J (-1),H J (-2),H J 0] 3)) (by simp) nr (by simp;omega);have nL:=(I.a1 ak (.cells #[H J fW,H J 32,H J 33,H J (-1),H J (-2),H J 0] 3)).h en.o;obtain ⟨fQ,p1,p2,jh,ji,lq,lr,lu⟩:=eR nL;have wj:=h6 nL;have pa:=(I.a1 ak (.cells #[H J fW,H J 32,H J 33,H J (-1),H J (-2),H J 0] 3)).c u8;have AD:=h6 ((I.a1 ak (.cells #[H J fW,H J 32,H J 33,H J (-1),H J (-2),H J 0] 3)).h nh.o);clear hjj nL;go_wp2;go_meet;have tT:ak.heap[aG]? =some (.cells (.node op3 (some ⟨dz,0,none⟩) jH set3 (some ⟨fr,0,none⟩) c8' kids3 cA cC cB cv cx:MRe).row.toArray 26 (0,0)):=en.o;exact CK (S:=[]) (y:=(.node op3 (some ⟨dz,0,none⟩) jH set3 (some ⟨fr,0,none⟩) c8' kids3 cA cC cB cv cx:MRe)) (y':=(.node op3 (some ⟨dz,0,none⟩) jH set3 (some ⟨fr,0,none⟩) c8' kids3 cA v cB cv cx:MRe)) 4 _ (I.a1 _ _) vG.o qW.o.1 nz.o tT nh.o (by simp) rfl (fun eu ri=> ((show MRe.aK ak (.node op3 (some ⟨dz,0,none⟩) jH set3 (some ⟨fr,0,none⟩) c8' kids3 cA v cB cv cx:MRe) from MRe.aK.hR ho.o ma.o).ah (I.a1 _ _)).bG ri (fun b ad=> by simp;exact (ss (P:=fun b=> b≠U∧b≠U + 1∧b≠aG) gx.o.1 gx.o.2.1 gx.o.2.2 b ad).2.2)) (by have h:=fY.o;simpa only [MRe.ab,Tree.bm] using (by omega:1 + set3.length + Tree.ed (MRe.al kids3)≤13000)) (ss (P:=fun b=> b≠U∧b≠U + 1∧b≠aG) gx.o.1 gx.o.2.1 gx.o.2.2)
    ·
     go_wp2_with fail
     refine Calls.mono (tS fW 4 _ (by decide) wA.o) ?_;rintro e gW ⟨rfl,rfl⟩;obtain ⟨l6,hj1⟩:=uP fW 4 (by decide);obtain ⟨nr,hjj⟩:∃ nr:Nat,nD fW 4=(nr:Int):=⟨_,(Int.toNat_of_nonneg l6).symm⟩;rw [hjj] at l6 hj1 ⊢;obtain ⟨v,da⟩:=Ef (heap_alloc_new ak (.cells #[H J fW,H J 2,H J 3,H J (-1)] 3)) (by simp) nr (by simp;omega);have nL:=(I.a1 ak (.cells #[H J fW,H J 2,H J 3,H J (-1)] 3)).h en.o;obtain ⟨fQ,p1,p2,jh,ji,lq,lr,lu⟩:=eR nL;have wj:=h6 nL;have pa:=(I.a1 ak (.cells #[H J fW,H J 2,H J 3,H J (-1)] 3)).c u8;have AD:=h6 ((I.a1 ak (.cells #[H J fW,H J 2,H J 3,H J (-1)] 3)).h nh.o);clear hjj nL;go_wp2;go_meet;have tT:ak.heap[aG]? =some (.cells (.node op3 (some ⟨dz,0,none⟩) jH set3 (some ⟨fr,0,none⟩) c8' kids3 cA cC cB cv cx:MRe).row.toArray 26 (0,0)):=en.o;exact CK (S:=[]) (y:=(.node op3 (some ⟨dz,0,none⟩) jH set3 (some ⟨fr,0,none⟩) c8' kids3 cA cC cB cv cx:MRe)) (y':=(.node op3 (some ⟨dz,0,none⟩) jH set3 (some ⟨fr,0,none⟩) c8' kids3 cA cC v cv cx:MRe)) 5 _ (I.a1 _ _) vG.o qW.o.1 nz.o tT nh.o (by simp) rfl (fun eu ri=> ((show MRe.aK ak (.node op3 (some ⟨dz,0,none⟩) jH set3 (some ⟨fr,0,none⟩) c8' kids3 cA cC v cv cx:MRe) from MRe.aK.hR ho.o ma.o).ah (I.a1 _ _)).bG ri (fun b ad=> by simp;exact (ss (P:=fun b=> b≠U∧b≠U + 1∧b≠aG) gx.o.1 gx.o.2.1 gx.o.2.2 b ad).2.2)) (by have h:=fY.o;simpa only [MRe.ab,Tree.bm] using (by omega:1 + set3.length + Tree.ed (MRe.al kids3)≤13000)) (ss (P:=fun b=> b≠U∧b≠U + 1∧b≠aG) gx.o.1 gx.o.2.1 gx.o.2.2)
    ·
     go_wp2_with fail
     refine Calls.mono (tS fW 5 _ (by decide) wA.o) ?_;rintro e gW ⟨rfl,rfl⟩;obtain ⟨l6,hj1⟩:=uP fW 5 (by decide);obtain ⟨nr,hjj⟩:∃ nr:Nat,nD fW 5=(nr:Int):=⟨_,(Int.toNat_of_nonneg l6).symm⟩;rw [hjj] at l6 hj1 ⊢;obtain ⟨v,da⟩:=Ef (heap_alloc_new ak (.cells #[H J fW,H J 0,H J 1,H J 5,H J 6] 3)) (by simp) nr (by simp;omega);have nL:=(I.a1 ak (.cells #[H J fW,H J 0,H J 1,H J 5,H J 6] 3)).h en.o;obtain ⟨fQ,p1,p2,jh,ji,lq,lr,lu⟩:=eR nL;have wj:=h6 nL;have pa:=(I.a1 ak (.cells #[H J fW,H J 0,H J 1,H J 5,H J 6] 3)).c u8;have AD:=h6 ((I.a1 ak (.cells #[H J fW,H J 0,H J 1,H J 5,H J 6] 3)).h nh.o);clear hjj nL;go_wp2;go_meet;have tT:ak.heap[aG]? =some (.cells (.node op3 (some ⟨dz,0,none⟩) jH set3 (some ⟨fr,0,none⟩) c8' kids3 cA cC cB cv cx:MRe).row.toArray 26 (0,0)):=en.o;exact CK (S:=[]) (y:=(.node op3 (some ⟨dz,0,none⟩) jH set3 (some ⟨fr,0,none⟩) c8' kids3 cA cC cB cv cx:MRe)) (y':=(.node op3 (some ⟨dz,0,none⟩) jH set3 (some ⟨fr,0,none⟩) c8' kids3 cA cC cB v cx:MRe)) 6 _ (I.a1 _ _) vG.o qW.o.1 nz.o tT nh.o (by simp) rfl (fun eu ri=> ((show MRe.aK ak (.node op3 (some ⟨dz,0,none⟩) jH set3 (some ⟨fr,0,none⟩) c8' kids3 cA cC cB v cx:MRe) from MRe.aK.hR ho.o ma.o).ah (I.a1 _ _)).bG ri (fun b ad=> by simp;exact (ss (P:=fun b=> b≠U∧b≠U + 1∧b≠aG) gx.o.1 gx.o.2.1 gx.o.2.2 b ad).2.2)) (by have h:=fY.o;simpa only [MRe.ab,Tree.bm] using (by omega:1 + set3.length + Tree.ed (MRe.al kids3)≤13000)) (ss (P:=fun b=> b≠U∧b≠U + 1∧b≠aG) gx.o.1 gx.o.2.1 gx.o.2.2)
    ·
     go_wp2;go_meet;have tT:ak.heap[aG]? =some (.cells (.node op3 (some ⟨dz,0,none⟩) jH set3 (some ⟨fr,0,none⟩) c8' kids3 cA cC cB cv cx:MRe).row.toArray 26 (0,0)):=en.o;exact CK (S:=[]) (y:=(.node op3 (some ⟨dz,0,none⟩) jH set3 (some ⟨fr,0,none⟩) c8' kids3 cA cC cB cv cx:MRe)) (y':=(.node op3 (some ⟨dz,0,none⟩) jH set3 (some ⟨fr,0,none⟩) c8' kids3 cA cC cB cv (!cx):MRe)) 7 _ (I.refl [] ak) vG.o qW.o.1 nz.o tT nh.o (by simp) rfl (fun eu ri=> ((show MRe.aK ak (.node op3 (some ⟨dz,0,none⟩) jH set3 (some ⟨fr,0,none⟩) c8' kids3 cA cC cB cv (!cx):MRe) from MRe.aK.hR ho.o ma.o).ah (I.refl [] ak)).bG ri (fun b ad=> by simp;exact (ss (P:=fun b=> b≠U∧b≠U + 1∧b≠aG) gx.o.1 gx.o.2.1 gx.o.2.2 b ad).2.2)) (by have h:=fY.o;simpa only [MRe.ab,Tree.bm] using (by omega:1 + set3.length + Tree.ed (MRe.al kids3)≤13000)) (ss (P:=fun b=> b≠U∧b≠U + 1∧b≠aG) gx.o.1 gx.o.2.1 gx.o.2.2)
    ·
     go_wp2_with (at_builtin;refine tF rfl (.tmp 122) (.tmp 124) 24 rfl 26 gV _ 8 96 Tryz.underlying24 Wq.o Wr.o Ws.o Wt.o rfl (by decide) (some fr) kids3.length c8' (fX kids3) rfl (WU.o.ah (I.a1 ak _) (by simp)) (some ⟨ak.heap.size,0,none⟩) 1 1 (fX [MRe.nil]) rfl rfl (fun _=> ⟨_,rfl,wa ak [H J 0,M none 0 0,M none 0 0,H J 0,H J 0,H J 0,H J 0,F false] 26⟩) (wT _) (by omega) (by omega) ?hk1)
     case hk1=>
      intro a9 RE eB dd ie KG;obtain ⟨vQ,rfl,nN⟩:∃ gb,a9=some gb∧oT.heap.size≤gb:=by
       have h4:=Wn.o
       rcases KG with h | ⟨g,h,h2⟩
       ·exact ⟨_,h,by have:=yl.o;have:=MY.o;omega⟩
       ·refine ⟨g,h,?_⟩;have h3:ak.heap.size≤(ak.alloc cO).heap.size:=by simp
        omega
      have FD:I [fr] ak eB:=((I.a1 ak _).mono (by simp)).trans ie;have nL:=FD.heap en.o (by simp;exact fun h=> gx.o.2.2.2.2 h.symm);obtain ⟨fQ,p1,p2,jh,ji,lq,lr,lu⟩:=eR nL;have wj:=h6 nL;rw [←Cf] at dd;have eC:=hH.we dd;simp only [de,Option.map_some] at eC ⊢;have afn:=C eC;have q3:=C FD;have AT:=C nN;clear dd ie FD KG eC nN;go_wp2;go_meet;have tT:ak.heap[aG]? =some (.cells (.node op3 (some ⟨dz,0,none⟩) jH set3 (some ⟨fr,0,none⟩) c8' kids3 cA cC cB cv cx:MRe).row.toArray 26 (0,0)):=en.o;have lg:vQ≠U∧vQ≠U + 1∧vQ≠aG:=by have:=AT.o;have:=qW.o.2;have:=AU.o;omega
      have dF:∀ b∈MRe.dN (kids3 ++ [MRe.nil]),b≠U∧b≠U + 1∧b≠aG:=by
       intro b ad;rw [MRe.JZ,List.flatMap_append,List.mem_append] at ad
       rcases ad with ad | ad
       ·exact gx.o.1 b (by rw [MRe.JZ];exact ad)
       ·simp [MRe.nil,MRe.aw,MRe.dN,df] at ad
      refine CK (S:=[fr]) (y:=(.node op3 (some ⟨dz,0,none⟩) jH set3 (some ⟨fr,0,none⟩) c8' kids3 cA cC cB cv cx:MRe)) (y':=(.node op3 (some ⟨dz,0,none⟩) jH set3 (some ⟨vQ,0,none⟩) RE (kids3 ++ [MRe.nil]) cA cC cB cv cx:MRe)) 2 _ q3.o vG.o qW.o.1 nz.o tT nh.o (fun x hx=> by simp at hx;subst hx;exact ⟨gx.o.2.2.2.2,gx.o.2.2.1,by have:=yl.o;have:=MY.o;have:=AU.o;have:=qW.o.1;omega⟩) (by simp [MRe.row]) (fun eu ri=> MRe.aK.hR ((ho.o.bG q3.o (fun b ad=> by have h:=Gh ad;simp;rw [h];exact fun h=> Vf.o h)).bG ri (fun b ad=> by have h:=Gh ad;simp;rw [h];exact gx.o.2.1.2.2)) ⟨afn.o.bG ri (fun b ad=> by have h:=Gh ad;simp;rw [h];exact lg.2.2),fun k hk=> ?_⟩) (by have h:=fY.o;simp only [MRe.ab,Tree.bm,MRe.kP,List.map_append,Tree.J0] at h ⊢;have:Tree.ed ([MRe.nil].map MRe.ab)=1:=rfl;omega) (ss (P:=fun b=> b≠U∧b≠U + 1∧b≠aG) dF gx.o.2.1 lg)
      rcases List.mem_append.1 hk with hk | hk
      ·exact ((ma.o.all k hk).bG q3.o (fun b ad=> by simp;exact EM.o b (MRe.mQ hk ad))).bG ri (fun b ad=> by simp;exact (gx.o.1 b (MRe.mQ hk ad)).2.2)
      ·simp only [List.mem_cons,List.not_mem_nil,or_false] at hk;subst hk;exact MRe.aK.nil _
    ·
     by_cases aW:kids3.length=0
     ·have dQ:¬ (0:Int) < (kids3.length:Int):=by omega
      clear aW;go_wp2;go_meet;exact ⟨(.node op3 (some ⟨dz,0,none⟩) jH set3 (some ⟨fr,0,none⟩) c8' kids3 cA cC cB cv cx:MRe),cp,ru,_,rfl,MRe.aK.hR ho.o ma.o,en.o,nh.o,vG.o,(by have h:=fY.o;simpa only [MRe.ab,Tree.bm] using (by omega:1 + set3.length + Tree.ed (MRe.al kids3)≤13000)),ss (P:=fun b=> b≠U∧b≠U + 1∧b≠aG) gx.o.1 gx.o.2.1 gx.o.2.2⟩
     ·have dQ:(0:Int) < (kids3.length:Int):=by omega
      have hcap:=ma.o.ch.cap;have fc:=ma.o.ch.le;unfold maxLen at hcap;have dB:=ma.o.ch.drop 1 (by omega);have Ol:∀ W:World,(Instr.sliceAt 24 (M (some ⟨fr,0,none⟩) kids3.length c8') (some (H J 1)) none none).run Tryz.prog W=.ok (M (if c8'=1 then some ⟨fr,0,none⟩ else some ⟨fr,0 + 1 * 8,none⟩) (kids3.length - 1) (c8' - 1)) W:=by
       have S1:∀ j:Nat,j≤kids3.length→∀ W:World,(Instr.sliceAt 24 (M (some ⟨fr,0,none⟩) kids3.length c8') (some (H J j)) none none).run Tryz.prog W=.ok (M (if c8'=j then some ⟨fr,0,none⟩ else some ⟨fr,0 + j * 8,none⟩) (kids3.length - j) (c8' - j)) W:=by
        intro j c8 W;have q1:(j:Int)≤kids3.length:=by omega
        simp [go_sem,q1]
       intro W;exact S1 1 (by omega) W
      obtain ⟨rN,yK⟩:∃ rN,rN=(if c8'=1 then some (⟨fr,0,none⟩:Addr) else some ⟨fr,0 + 1 * 8,none⟩):=⟨_,rfl⟩;have aj4:∃ o,rN=some ⟨fr,o,none⟩:=by rw [yK];split <;> exact ⟨_,rfl⟩
      rw [←yK] at dB Ol;obtain ⟨mR,rfl⟩:=aj4;have Bi:(kids3.drop 1).length=kids3.length - 1:=List.length_drop;have gi:=C dB;have aeJ:=C Bi;clear yK dB Bi;go_wp2;go_meet;have tT:ak.heap[aG]? =some (.cells (.node op3 (some ⟨dz,0,none⟩) jH set3 (some ⟨fr,0,none⟩) c8' kids3 cA cC cB cv cx:MRe).row.toArray 26 (0,0)):=en.o;have dF:∀ b∈MRe.dN (kids3.drop 1),b≠U∧b≠U + 1∧b≠aG:=by
       intro b ad;rw [MRe.JZ] at ad;obtain ⟨k,hk,ad⟩:=List.mem_flatMap.1 ad;exact gx.o.1 b (MRe.mQ (List.mem_of_mem_drop hk) ad)
      refine CK (S:=[]) (y:=(.node op3 (some ⟨dz,0,none⟩) jH set3 (some ⟨fr,0,none⟩) c8' kids3 cA cC cB cv cx:MRe)) (y':=(.node op3 (some ⟨dz,0,none⟩) jH set3 (some ⟨fr,mR,none⟩) (c8' - 1) (kids3.drop 1) cA cC cB cv cx:MRe)) 2 _ (I.refl [] ak) vG.o qW.o.1 nz.o tT nh.o (by simp) (by rw [←aeJ.o];rfl) (fun eu ri=> MRe.aK.hR (ho.o.bG ri (fun b ad=> by have h:=Gh ad;simp;rw [h];exact gx.o.2.1.2.2)) ⟨gi.o.bG ri (fun b ad=> by have h:=Gh ad;simp;rw [h];exact gx.o.2.2.2.2),fun k hk=> (ma.o.all k (List.mem_of_mem_drop hk)).bG ri (fun b ad=> by simp;exact (gx.o.1 b (MRe.mQ (List.mem_of_mem_drop hk) ad)).2.2)⟩) (by have h:=fY.o;rw [Tree.Hs _ 1] at h;simp only [MRe.ab,Tree.bm,MRe.kP,List.map_drop] at h ⊢;omega) (ss (P:=fun b=> b≠U∧b≠U + 1∧b≠aG) dF gx.o.2.1 gx.o.2.2)
    ·
     go_wp2_with fail
     refine Calls.mono (tS fW 5 _ (by decide) wA.o) ?_;rintro e gW ⟨rfl,rfl⟩;obtain ⟨l6,hj1⟩:=uP fW 5 (by decide);obtain ⟨nr,hjj⟩:∃ nr:Nat,nD fW 5=(nr:Int):=⟨_,(Int.toNat_of_nonneg l6).symm⟩;rw [hjj] at l6 hj1 ⊢;obtain ⟨v,da⟩:=Ef (heap_alloc_new ak (.cells #[H J fW,H J 0,H J 9,H J 10,H J (-1)] 3)) (by simp) nr (by simp;omega);have nL:=(I.a1 ak (.cells #[H J fW,H J 0,H J 9,H J 10,H J (-1)] 3)).h en.o;obtain ⟨fQ,p1,p2,jh,ji,lq,lr,lu⟩:=eR nL;have wj:=h6 nL;have pa:=(I.a1 ak (.cells #[H J fW,H J 0,H J 9,H J 10,H J (-1)] 3)).c u8;have AD:=h6 ((I.a1 ak (.cells #[H J fW,H J 0,H J 9,H J 10,H J (-1)] 3)).h nh.o);clear hjj nL;go_wp2;go_meet;exact abV (y:=(.node op3 (some ⟨dz,0,none⟩) jH set3 (some ⟨fr,0,none⟩) c8' kids3 cA cC cB cv cx:MRe)) (cp':=v) (ru':=ru) 8 _ (I.a1 _ _) vG.o nz.o en.o nh.o (alI VO.o) (show MRe.aK ak (.node op3 (some ⟨dz,0,none⟩) jH set3 (some ⟨fr,0,none⟩) c8' kids3 cA cC cB cv cx:MRe) from MRe.aK.hR ho.o ma.o) (by have h:=fY.o;simpa only [MRe.ab,Tree.bm] using (by omega:1 + set3.length + Tree.ed (MRe.al kids3)≤13000)) (ss (P:=fun b=> b≠U∧b≠U + 1∧b≠aG) gx.o.1 gx.o.2.1 gx.o.2.2)
    ·
     go_wp2;go_meet;exact abV (y:=(.node op3 (some ⟨dz,0,none⟩) jH set3 (some ⟨fr,0,none⟩) c8' kids3 cA cC cB cv cx:MRe)) (cp':=cp) (ru':=!ru) 9 _ (I.refl [] ak) vG.o nz.o en.o nh.o (alJ VO.o) (show MRe.aK ak (.node op3 (some ⟨dz,0,none⟩) jH set3 (some ⟨fr,0,none⟩) c8' kids3 cA cC cB cv cx:MRe) from MRe.aK.hR ho.o ma.o) (by have h:=fY.o;simpa only [MRe.ab,Tree.bm] using (by omega:1 + set3.length + Tree.ed (MRe.al kids3)≤13000)) (ss (P:=fun b=> b≠U∧b≠U + 1∧b≠aG) gx.o.1 gx.o.2.1 gx.o.2.2)
   case rest=>
    obtain ⟨y,cp',ru',eu,rfl,xX,aa9,TY,i4,yT,Ie⟩:=hcut;rw [Qo.o,jo.o] at TY;have SB:eu.heap[U]? =some (.cells #[H J op1,M aM set1.length aN,M aS aq.length kc1,H J mn1,H J aI,H J mode1,H J n1,F aL,H J cp',F ru'] 28 (0,0)):=TY;have lM:=C SB;have kT:=C i4;have apm:=C Ie;have afi:=C (show bW.aK eu from (gD.o.ah (aH.o.trans aR.o)).bG i4 (fun b ad=> by have:=gD.o.fi b ad;have:=aB.o;simp;omega));have wD:=UO path bW y bP pc eu afi.o xX (rA.o.bG i4 (fun aX dC hm=> by have h:=Qv.o aX dC;have h2:=lt_of_block ba.o;simp at hm;omega)) yt.o.1 yt.o.2 (by have:=vz.o;omega);obtain ⟨qu,uT⟩:∃ qu,qu=lI bW.ab path y.ab:=⟨_,rfl⟩;rw [←uT] at wD;have ys:=C (show (qu.getD .nil).bm≤30000 by
     have h1:=vz.o
     cases hq:qu with
     | none=> show 1≤30000;omega
     | some ae=>
      rw [hq] at uT
      have:=UF path uT.symm
      rw [Option.getD_some]
      omega)
    obtain ⟨AK,Ao⟩:∃ AK,AK=bW.aw ++ y.aw:=⟨_,rfl⟩;have qo:=C (show ∀ b∈AK,b≠U∧b≠U + 1 by
     rw [Ao];intro b ad
     rcases List.mem_append.1 ad with h | h
     ·have:=gD.o.fi b h;have:=aB.o;omega
     ·have:=Ie b h;exact ⟨this.1,this.2.1⟩)
    rw [←Ao] at wD;obtain ⟨c6,oa⟩:∃ c6,c6=y:=⟨_,rfl⟩;have MW:=C oa;rw [jo.o] at wD;obtain ⟨qQ,qR,qS,hE,qH,qI,qJ,qK,qM,qL,o8,qN⟩:=y;simp only [MRe.val] at wD;have wD:=C wD;obtain ⟨g0,g1,g2,g3,kx,k4,ajd,kE⟩:=eR (show eu.heap[aG]? =some (bf qQ qR hE qS qH qJ qI qK qM qL o8 qN) from aa9);obtain ⟨ar,c1,c2,an,av,ay,ax,az,au,dg,fh⟩:=fR SB;clear xX aa9 TY i4 yT Ie SB uT Ao oa ep aJ cP eM eF eN eO eP vO aoH u8 u9;go_wp2_with fail
    refine Calls.mono wD.o ?_;rintro gz eB ⟨ae,rfl,a7,aT,ie,hqf⟩;have zC:=C (show ae.ab.bm≤30000 by rw [a7];exact ys.o);have dA:=C aT;have et:=C (show ∀ b∈ae.aw,b≠U∧b≠U + 1 from fun b ad=> by
     rcases hqf b ad with h | h
     ·exact qo.o b h
     ·have h1:=lt_of_block ba.o;have h2:=aR.o.size;have h3:=kT.o.size;omega)
    obtain ⟨q0,bN⟩:∃ q0,q0=ae:=⟨_,rfl⟩;rw [←bN] at zC dA et;have dt:=C bN;have q3:=C ie;obtain ⟨J8,KZ⟩:∃ J8:Int,J8=(if qu.isSome then 0 else 7):=⟨_,rfl⟩;rw [←KZ];have Vj:=C (ie.h lM.o);have Df:=C (ie.heap (kT.o.heap (aR.o.h ba.o) (by simp)) (by simp));obtain ⟨bA,bB,bC,bD,bs,bt,bu,bo,bx,bw,bp,bz⟩:=ae;simp only [MRe.val];clear a7 aT hqf bN ie KZ ar c1 c2 an av ay ax az au dg fh g0 g1 g2 g3 kx k4 ajd kE;obtain ⟨ar,c1,c2,an,av,ay,ax,az,au,dg,fh⟩:=fR Vj.o;go_upto_region 34 with fail
    obtain ⟨fO,lh⟩:∃ fO,fO=((((((((eB.setCell ⟨U,0,none⟩ (H J bA)).setCell ⟨U,1,none⟩ (M bB bD.length bC)).setCell ⟨U,2,none⟩ (M bs bu.length bt)).setCell ⟨U,3,none⟩ (H J bo)).setCell ⟨U,4,none⟩ (H J bx)).setCell ⟨U,5,none⟩ (H J bw)).setCell ⟨U,6,none⟩ (H J bp)).setCell ⟨U,7,none⟩ (F bz)):=⟨_,rfl⟩;rw [←lh];have cU:=jv eB U (H J bA) (M bB bD.length bC) (M bs bu.length bt) (H J bo) (H J bx) (H J bw) (H J bp) (F bz);have YK:fO.heap[U]? =some (.cells #[H J bA,M bB bD.length bC,M bs bu.length bt,H J bo,H J bx,H J bw,H J bp,F bz,H J cp',F ru'] 28 (0,0)):=by rw [lh];exact US Vj.o (H J bA) (M bB bD.length bC) (M bs bu.length bt) (H J bo) (H J bx) (H J bw) (H J bp) (F bz)
    have lD:I [U] eB fO:=by rw [lh];exact cU
    have k3:=C (show I [] w fO from (((aH.o.trans aR.o).cn kT.o (by intro x hx;simp at hx;subst hx;exact .inr (by have:=aB.o;omega))).trans q3.o).cn lD (by intro x hx;simp at hx;subst hx;exact .inr (by have:=aB.o;omega)));have A5:=C (lD.h Df.o);have Hg:=C (show MRe.aK fO (.node bA bB bC bD bs bt bu bo bx bw bp bz) by rw [←dt.o];exact dA.o.bG lD fun b ad=> by have:=(et.o b ad).1;simp;exact this);clear lh cU lD ar c1 c2 an av ay ax az au dg fh;obtain ⟨ar,c1,c2,an,av,ay,ax,az,au,dg,fh⟩:=fR YK;have aD:=C ((I.refl [U + 1] fO).setRow (g:=U + 1) (.inl (by simp)) #[H J bA,M bB bD.length bC,M bs bu.length bt,H J bo,H J bx,H J bw,H J bp,F bz,H J cp',F ru']);have Jq:=C (setRow_heap fO (U + 1) _ #[H J bA,M bB bD.length bC,M bs bu.length bt,H J bo,H J bx,H J bw,H J bp,F bz,H J cp',F ru'] _ _ A5.o);clear YK
    go_wp2_with ((with_reducible show wpList _ _ _ [_] _ _);refine wpList_store_row rfl 28 (.tmp 8) (.tmp 161) rfl (U + 1) #[H J bA,M bB bD.length bC,M bs bu.length bt,H J bo,H J bx,H J bw,H J bp,F bz,H J cp',F ru'] rfl rfl 28 #[H J 0,M none 0 0,M none 0 0,H J 0,H J 0,H J 0,H J 0,F false,H J 0,F false] A5.o kO rfl (zb _ _ _ _ _ _ _ _ _ _ _ _ _ _) ?_)
    refine bodyPost_ret (results_cell_row rfl _ _ (U + 1) 28 #[H J bA,M bB bD.length bC,M bs bu.length bt,H J bo,H J bx,H J bw,H J bp,F bz,H J cp',F ru'] (0,0) _ rfl Jq.o Tryz.underlying28 rfl kO) rfl ?_;exact ⟨.node bA bB bC bD bs bt bu bo bx bw bp bz,cp',ru',rfl,Hg.o.bG aD.o (fun b ad=> by have:=(et.o b (by rw [dt.o];exact ad)).2;simp;exact this),k3.o.cn aD.o (by intro ae hq;simp at hq;subst hq;have:=aB.o;exact .inr (by omega)),by rw [←dt.o];exact zC.o⟩
end Go.Proofs.YtjnlkjlbejelgaaGreat
