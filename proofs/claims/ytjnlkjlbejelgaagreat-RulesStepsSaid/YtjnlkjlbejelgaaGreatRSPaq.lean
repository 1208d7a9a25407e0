/- Part of the proof. No condition: every lemma says its own. -/
import Derived.Test.YtjnlkjlbejelgaaGreatRSPap
namespace Go.Proofs.YtjnlkjlbejelgaaGreat
open Go.RowKit
open Go.Value renaming int→H,slice→M,bool→F
open Go.IntKind renaming i64→J
set_option maxRecDepth 100000
set_option maxHeartbeats 16000000
theorem Rp (m:MRe):∀ (w:World),m.aK w→m.ab.bm≤1000000→
  Calls Tryz.prog 65 #[m.val] w (Vc w m.ab):=by
 obtain ⟨gq,kn,dQ,fj,eI⟩:=info_parts Eb;have gH:=C kn;have gI:=C dQ;have gJ:=C fj;have gK:=C eI;clear kn dQ fj eI
 induction m using MRe.nq with
 | h op sa sc set ka kc kids mn mx mode n neg ih=>
  intro w aj hbk;obtain ⟨hbl,Cq,rI⟩:=lG hbk;have hcap:=aj.ch.cap;have fc:=aj.ch.le;unfold maxLen at hcap;have iL:=C aj.kids;have ff:=C ih;have GR:=C rI;have V5:=C aj.nV;obtain ⟨U,cd⟩:∃ U,U=w.heap.size:=⟨_,rfl⟩;obtain ⟨aA,c5⟩:∃ aA,aA=(w.alloc (bf op sa set sc ka kids kc mn mx mode n neg)).alloc cO:=⟨_,rfl⟩;have eZ:I [] w aA:=by rw [c5];exact I.a2 _ _ _
  have gg:aA.heap[U]? =some (bf op sa set sc ka kids kc mn mx mode n neg):=by rw [c5,cd];exact (I.a1 _ _).heap (heap_alloc_new w _) (by simp)
  have aW:aA.heap[U + 1]? =some cO:=by rw [c5,cd];exact heap_alloc2_new w _ _
  have cZ:aA.heap.size=U + 2:=by rw [c5,cd];simp
  have ML:=C (ady sa sc set aA (aj.nV.ah eZ) Cq);have dw:=C c5;have aB:=C cd;have aZ:=C eZ;have ba:=C aW;have mm:=C gg;have oo:=C cZ;obtain ⟨ar,c1,c2,an,av,ay,ax,az⟩:=eR gg;clear ih aj hbk rI cd c5 eZ aW gg cZ;simp only [MRe.val];go_enter Tryz.func65,Tryz.ntmps65
  go_upto_region 1 with fail
  rw [←dw.o,←aB.o];go_wp2_with fail
  refine Calls.mono ML.o ?_;rintro e w3 ⟨jk,ki,rfl,dF,aP,hfr⟩;have GP:=C (aP.h mm.o);have ku:=C (aP.h ba.o);have fp:=C dF;have iP:=C hfr;have aR:=C aP;clear dF aP hfr ar c1 c2 an av ay ax az;obtain ⟨ar,c1,c2,an,av,ay,ax,az⟩:=eR GP.o;have fh:=h6 GP.o;go_upto_region 4 with fail
  obtain ⟨aE,cz⟩:∃ aE,aE=(w3.setCell ⟨U,1,none⟩ (M jk set.length ki)).setCell ⟨U,2,none⟩ (M none 0 0):=⟨_,rfl⟩;rw [←cz];have cq:I [U] w3 aE:=by rw [cz];exact ((I.refl [U] w3).setCell (p:=⟨U,1,none⟩) (.inl (by simp)) _).setCell (p:=⟨U,2,none⟩) (.inl (by simp)) _
  have wY:=aoG GP.o (M jk set.length ki) (M none 0 0);rw [←cz] at wY;have hspb:∀ b∈df set.length jk,U + 2≤b∧b < aE.heap.size:=fun b ad=> by
   have h1:=iP.o b ad;have h2:=oo.o;have h3:=fp.o.fi b ad;have h4:=cq.size;omega
  have si:w.heap.size≤U:=by rw [aB.o];exact Nat.le_refl _
  have P4:=C (show PD w U op jk ki set mn mx mode n neg (MRe.al kids) 0 aE from ⟨none,0,[],rfl,fun _=> rfl,cr.nil _ _ _,rfl,by simp,wY,cq.h ku.o,fp.o.bG cq (fun b ad=> by have:=(hspb b ad).1;simp;omega),(aZ.o.trans aR.o).cn cq (by intro x hx;simp at hx;subst hx;exact .inr si),⟨by simpa [MRe.dN] using ah6 _ _,fun b ad=> hspb b (by simpa [MRe.dN] using ad)⟩,by intro b ad;simp [MRe.rQ] at ad⟩);clear cz cq wY hspb GP ku fp iP aR ML ar c1 c2 an av ay ax az fh;go_wp2
  go_loopw [5,15] (fun _ i wr=> ∃ k:Nat,k≤kids.length∧i=H J k∧PD w U op jk ki set mn mx mode n neg (MRe.al kids) k wr) (fun _ i _=> kids.length - (intOf i).toNat)
  case atStart=> exact ⟨0,Nat.zero_le _,rfl,P4.o⟩
  case round=>
   obtain ⟨k,gC,rfl,a,c,ks,qC⟩:=hrel;have en:=C qC;have Jr:=C qC.row
   by_cases aQ:k < kids.length
   ·obtain ⟨b,off,rfl,lk,hx⟩:=(iL.o.ah qC.ah).ch.dy (by omega);have eD:=hx k aQ;have bI:=C (fun W (h:I [] wr W)=> ff.o kids[k] (List.getElem_mem aQ) W (((iL.o.ah qC.ah).all _ (List.getElem_mem aQ)).ah h) (GR.o _ (List.getElem_mem aQ)));have i5:k < (MRe.al kids).length:=by rw [MRe.ee];exact aQ
    have o2:(MRe.al kids)[k]'i5=kids[k].ab:=kQ kids k aQ;obtain ⟨T,hT⟩:∃ T,T=kids[k].ab:=⟨_,rfl⟩;rw [←hT] at o2 bI;have tf:=C o2
    generalize kids[k]=kk at *
    obtain ⟨op1,aM,aN,set1,aS,kc1,aq,mn1,aI,mode1,n1,aL⟩:=kk;have g:=eD.node;obtain ⟨bg,aV,a6,bl,bq,bE,bF,bH⟩:=id g;simp only [MRe.val] at bI;have je:(0:Int)≤(k:Int):=by omega
    have hk1:(k:Int) < (kids.length:Int):=by omega
    have aqF:k≤1000000:=by omega
    clear g hx eD hT lk qC o2;go_upto_region 7 with fail
    obtain ⟨JQ,NN⟩:∃ JQ,JQ=wr.alloc (bf op1 aM set1 aN aS aq kc1 mn1 aI mode1 n1 aL):=⟨_,rfl⟩;obtain ⟨C3,NF⟩:∃ C3,C3=wr.heap.size:=⟨_,rfl⟩;have hk5:I [] wr JQ:=by rw [NN];exact I.a1 _ _
    have h5:JQ.heap[C3]? =some (bf op1 aM set1 aN aS aq kc1 mn1 aI mode1 n1 aL):=by rw [NN,NF];exact heap_alloc_new wr _
    rw [←NN,←NF];have dr:=C hk5;have PY:=C NF;have sE:=C (hk5.h Jr.o);obtain ⟨ep,aJ,cP,eM,eF,eN,eO,eP⟩:=eR h5;have nK:¬ C3=U:=by have:=lt_of_block Jr.o;omega
    clear NN NF hk5 h5 bg aV a6 bl bq bE bF bH;have eA:=C ((I.refl [] JQ).drew);refine rg (S:=fun w'=> iK w' C3 op1 aM set1 aN aS aq kc1 mn1 aI mode1 n1 aL) (fun _ k=> (k.au ep aJ cP eM eF eN eO eP)) fun bM aF=> ?_;refine ag 0 ?_;refine ag 2 ?_;refine kX 1 3 (fun ai af=> ?_) fun ai af=> ?_
    ·have kS:=C (eA.o.h sE.o);obtain ⟨b0,b1,b2,b3,dX,dS,dU,dT⟩:=eR kS.o;go_simp;clear b0 b1 b2 b3 dX dS dU dT;refine af.out _ _ (bM.o _ eA.o) fun aF=> ?_;clear af ai;try go_frame
     refine bh 3 fun ai af=> ?_;go_simp;refine Calls.mono (bI.o _ (dr.o.trans eA.o)) ?_;rintro gz hG ⟨ae,rfl,a7,aT,hV,xV,hqf⟩;have dK:=C a7;have dA:=C aT;have wI:=C xV;have et:=C hqf;obtain ⟨q0,bN⟩:∃ q0,q0=ae:=⟨_,rfl⟩;rw [←bN] at dK dA wI et;have dt:=C bN;obtain ⟨bA,bB,bC,bD,bs,bt,bu,bo,bx,bw,bp,bz⟩:=ae;simp only [MRe.val];have kv:=C (eA.o.trans hV);clear a7 aT hV xV hqf bN;refine af.out _ _ (bM.o _ kv.o) fun aF=> ?_;clear af ai;try go_frame
     refine bh 4 fun ai af=> ?_;go_simp;have eV:=C (kv.o.trans (I.a1 hG (bf bA bB bD bC bs bu bt bo bx bw bp bz)));refine af.out _ _ (bM.o _ eV.o) fun aF=> ?_;clear af ai;try go_frame
     refine bh 5 fun ai af=> ?_;refine wh (.tmp 20) (.tmp 23) 24 rfl 26 gq _ 8 96 Tryz.underlying24 gH.o gI.o gJ.o gK.o rfl (by decide) a k c _ rfl (en.o.iJ.ah (dr.o.trans eV.o) (by simp)) (some ⟨hG.heap.size,0,none⟩) 1 1 (fX [(.node bA bB bC bD bs bt bu bo bx bw bp bz:MRe)]) rfl rfl (fun _=> ⟨_,rfl,wa hG [H J bA,M bB bD.length bC,M bs bu.length bt,H J bo,H J bx,H J bw,H J bp,F bz] 26⟩) (wT _) (by omega) (by omega) ?_;intro a2 c2 fN dd cU b8;have hne:∀ x∈a.toList,U + 2≤x∧x < wr.heap.size:=fun x hx=> en.o.CT.2 x (List.mem_append_right _ (List.mem_append_left _ hx));have DB:=cU.heap ((eV.o.h sE.o)) (fun hx=> by have:=(hne U hx).1;omega);have yi:=C DB;have fq:=C (RF (m:=q0) en.o si (by rw [MRe.ee];exact aQ) tf.o dr.o kv.o dK.o dA.o wI.o et.o (I.a1 hG (bf bA bB bD bC bs bu bt bo bx bw bp bz)) (by rw [dt.o];simpa [fX] using dd) cU b8);have nJ:∀ x∈a.toList,x≠C3:=fun x hx h=> by have h1:=hne x hx;have h2:=PY.o;omega
     have g0:=cU.cell (eV.o.c ep) (fun hx=> nJ _ hx rfl);have g1:=cU.cell (eV.o.c aJ) (fun hx=> nJ _ hx rfl);have g2:=cU.cell (eV.o.c cP) (fun hx=> nJ _ hx rfl);have g3:=cU.cell (eV.o.c eM) (fun hx=> nJ _ hx rfl);have kx:=cU.cell (eV.o.c eF) (fun hx=> nJ _ hx rfl);have k4:=cU.cell (eV.o.c eN) (fun hx=> nJ _ hx rfl);have dz:=cU.cell (eV.o.c eO) (fun hx=> nJ _ hx rfl);have kE:=cU.cell (eV.o.c eP) (fun hx=> nJ _ hx rfl);clear dd cU b8 hne DB nJ;refine af.out _ _ (⟨g0,g1,g2,g3,kx,k4,dz,kE⟩) (fun aF=> ?_);clear af ai;try go_frame
     refine ag 6 ?_;simp only [de];obtain ⟨b0,b1,b2,b3,dX,dS,dU,dT⟩:=eR yi.o;have vM:=h6 yi.o;refine bh 7 fun ai af=> ?_;go_simp;have bk:=C ((I.refl [U] fN).setCell (p:=⟨U,2,none⟩) (.inl (by simp)) (de a2 (k + 1) c2));clear b0 b1 b2 b3 dX dS dU dT vM;refine af.out _ _ (⟨bk.o.cell g0 (by simp;exact nK),bk.o.cell g1 (by simp;exact nK),bk.o.cell g2 (by simp;exact nK),bk.o.cell g3 (by simp;exact nK),bk.o.cell kx (by simp;exact nK),bk.o.cell k4 (by simp;exact nK),bk.o.cell dz (by simp;exact nK),bk.o.cell kE (by simp;exact nK)⟩) (fun aF=> ?_);clear af ai;try go_frame
     refine dR ?_;clear ep aJ cP eM eF eN eO eP g0 g1 g2 g3 kx k4 dz kE aF;go_wp2;go_roundw
     case rel=> exact ⟨k + 1,by omega,by go_num,fq.o⟩
     case measure=> simp [intOf];omega
    ·go_simp;refine Calls.mono (bI.o _ (dr.o.trans eA.o)) ?_;rintro gz hG ⟨ae,rfl,a7,aT,hV,xV,hqf⟩;have dK:=C a7;have dA:=C aT;have wI:=C xV;have et:=C hqf;obtain ⟨q0,bN⟩:∃ q0,q0=ae:=⟨_,rfl⟩;rw [←bN] at dK dA wI et;have dt:=C bN;obtain ⟨bA,bB,bC,bD,bs,bt,bu,bo,bx,bw,bp,bz⟩:=ae;simp only [MRe.val];have kv:=C (eA.o.trans hV);clear a7 aT hV xV hqf bN;refine af.out _ _ (bM.o _ kv.o) fun aF=> ?_;clear af ai;try go_frame
     refine kX 1 4 (fun ai af=> ?_) fun ai af=> ?_
     ·have kS:=C (kv.o.h sE.o);obtain ⟨b0,b1,b2,b3,dX,dS,dU,dT⟩:=eR kS.o;go_simp;clear b0 b1 b2 b3 dX dS dU dT;refine af.out _ _ (bM.o _ kv.o) fun aF=> ?_;clear af ai;try go_frame
      refine bh 4 fun ai af=> ?_;go_simp;have eV:=C (kv.o.trans (I.a1 hG (bf bA bB bD bC bs bu bt bo bx bw bp bz)));refine af.out _ _ (bM.o _ eV.o) fun aF=> ?_;clear af ai;try go_frame
      refine bh 5 fun ai af=> ?_;refine wh (.tmp 20) (.tmp 23) 24 rfl 26 gq _ 8 96 Tryz.underlying24 gH.o gI.o gJ.o gK.o rfl (by decide) a k c _ rfl (en.o.iJ.ah (dr.o.trans eV.o) (by simp)) (some ⟨hG.heap.size,0,none⟩) 1 1 (fX [(.node bA bB bC bD bs bt bu bo bx bw bp bz:MRe)]) rfl rfl (fun _=> ⟨_,rfl,wa hG [H J bA,M bB bD.length bC,M bs bu.length bt,H J bo,H J bx,H J bw,H J bp,F bz] 26⟩) (wT _) (by omega) (by omega) ?_;intro a2 c2 fN dd cU b8;have hne:∀ x∈a.toList,U + 2≤x∧x < wr.heap.size:=fun x hx=> en.o.CT.2 x (List.mem_append_right _ (List.mem_append_left _ hx));have DB:=cU.heap ((eV.o.h sE.o)) (fun hx=> by have:=(hne U hx).1;omega);have yi:=C DB;have fq:=C (RF (m:=q0) en.o si (by rw [MRe.ee];exact aQ) tf.o dr.o kv.o dK.o dA.o wI.o et.o (I.a1 hG (bf bA bB bD bC bs bu bt bo bx bw bp bz)) (by rw [dt.o];simpa [fX] using dd) cU b8);have nJ:∀ x∈a.toList,x≠C3:=fun x hx h=> by have h1:=hne x hx;have h2:=PY.o;omega
      have g0:=cU.cell (eV.o.c ep) (fun hx=> nJ _ hx rfl);have g1:=cU.cell (eV.o.c aJ) (fun hx=> nJ _ hx rfl);have g2:=cU.cell (eV.o.c cP) (fun hx=> nJ _ hx rfl);have g3:=cU.cell (eV.o.c eM) (fun hx=> nJ _ hx rfl);have kx:=cU.cell (eV.o.c eF) (fun hx=> nJ _ hx rfl);have k4:=cU.cell (eV.o.c eN) (fun hx=> nJ _ hx rfl);have dz:=cU.cell (eV.o.c eO) (fun hx=> nJ _ hx rfl);have kE:=cU.cell (eV.o.c eP) (fun hx=> nJ _ hx rfl);clear dd cU b8 hne DB nJ;refine af.out _ _ (⟨g0,g1,g2,g3,kx,k4,dz,kE⟩) (fun aF=> ?_);clear af ai;try go_frame
      refine ag 6 ?_;simp only [de];obtain ⟨b0,b1,b2,b3,dX,dS,dU,dT⟩:=eR yi.o;have vM:=h6 yi.o;refine bh 7 fun ai af=> ?_;go_simp;have bk:=C ((I.refl [U] fN).setCell (p:=⟨U,2,none⟩) (.inl (by simp)) (de a2 (k + 1) c2));clear b0 b1 b2 b3 dX dS dU dT vM;refine af.out _ _ (⟨bk.o.cell g0 (by simp;exact nK),bk.o.cell g1 (by simp;exact nK),bk.o.cell g2 (by simp;exact nK),bk.o.cell g3 (by simp;exact nK),bk.o.cell kx (by simp;exact nK),bk.o.cell k4 (by simp;exact nK),bk.o.cell dz (by simp;exact nK),bk.o.cell kE (by simp;exact nK)⟩) (fun aF=> ?_);clear af ai;try go_frame
      refine dR ?_;clear ep aJ cP eM eF eN eO eP g0 g1 g2 g3 kx k4 dz kE aF;go_wp2;go_roundw
      case rel=> exact ⟨k + 1,by omega,by go_num,fq.o⟩
      case measure=> simp [intOf];omega
     ·go_simp;have eV:=C (kv.o.trans (I.a1 hG (bf bA bB bD bC bs bu bt bo bx bw bp bz)));refine af.out _ _ (bM.o _ eV.o) fun aF=> ?_;clear af ai;try go_frame
      have kS:=C (eV.o.h sE.o);obtain ⟨b0,b1,b2,b3,dX,dS,dU,dT⟩:=eR kS.o;refine bh 1 fun ai af=> ?_;go_simp;clear b0 b1 b2 b3 dX dS dU dT;refine af.out _ _ (bM.o _ eV.o) fun aF=> ?_;clear af ai;try go_frame
      refine bh 5 fun ai af=> ?_;refine wh (.tmp 20) (.tmp 23) 24 rfl 26 gq _ 8 96 Tryz.underlying24 gH.o gI.o gJ.o gK.o rfl (by decide) a k c _ rfl (en.o.iJ.ah (dr.o.trans eV.o) (by simp)) (some ⟨hG.heap.size,0,none⟩) 1 1 (fX [(.node bA bB bC bD bs bt bu bo bx bw bp bz:MRe)]) rfl rfl (fun _=> ⟨_,rfl,wa hG [H J bA,M bB bD.length bC,M bs bu.length bt,H J bo,H J bx,H J bw,H J bp,F bz] 26⟩) (wT _) (by omega) (by omega) ?_;intro a2 c2 fN dd cU b8;have hne:∀ x∈a.toList,U + 2≤x∧x < wr.heap.size:=fun x hx=> en.o.CT.2 x (List.mem_append_right _ (List.mem_append_left _ hx));have DB:=cU.heap ((eV.o.h sE.o)) (fun hx=> by have:=(hne U hx).1;omega);have yi:=C DB;have fq:=C (RF (m:=q0) en.o si (by rw [MRe.ee];exact aQ) tf.o dr.o kv.o dK.o dA.o wI.o et.o (I.a1 hG (bf bA bB bD bC bs bu bt bo bx bw bp bz)) (by rw [dt.o];simpa [fX] using dd) cU b8);have nJ:∀ x∈a.toList,x≠C3:=fun x hx h=> by have h1:=hne x hx;have h2:=PY.o;omega
      have g0:=cU.cell (eV.o.c ep) (fun hx=> nJ _ hx rfl);have g1:=cU.cell (eV.o.c aJ) (fun hx=> nJ _ hx rfl);have g2:=cU.cell (eV.o.c cP) (fun hx=> nJ _ hx rfl);have g3:=cU.cell (eV.o.c eM) (fun hx=> nJ _ hx rfl);have kx:=cU.cell (eV.o.c eF) (fun hx=> nJ _ hx rfl);have k4:=cU.cell (eV.o.c eN) (fun hx=> nJ _ hx rfl);have dz:=cU.cell (eV.o.c eO) (fun hx=> nJ _ hx rfl);have kE:=cU.cell (eV.o.c eP) (fun hx=> nJ _ hx rfl);clear dd cU b8 hne DB nJ;refine af.out _ _ (⟨g0,g1,g2,g3,kx,k4,dz,kE⟩) (fun aF=> ?_);clear af ai;try go_frame
      refine ag 6 ?_;simp only [de];obtain ⟨b0,b1,b2,b3,dX,dS,dU,dT⟩:=eR yi.o;have vM:=h6 yi.o;refine bh 7 fun ai af=> ?_;go_simp;have bk:=C ((I.refl [U] fN).setCell (p:=⟨U,2,none⟩) (.inl (by simp)) (de a2 (k + 1) c2));clear b0 b1 b2 b3 dX dS dU dT vM;refine af.out _ _ (⟨bk.o.cell g0 (by simp;exact nK),bk.o.cell g1 (by simp;exact nK),bk.o.cell g2 (by simp;exact nK),bk.o.cell g3 (by simp;exact nK),bk.o.cell kx (by simp;exact nK),bk.o.cell k4 (by simp;exact nK),bk.o.cell dz (by simp;exact nK),bk.o.cell kE (by simp;exact nK)⟩) (fun aF=> ?_);clear af ai;try go_frame
      refine dR ?_;clear ep aJ cP eM eF eN eO eP g0 g1 g2 g3 kx k4 dz kE aF;go_wp2;go_roundw
      case rel=> exact ⟨k + 1,by omega,by go_num,fq.o⟩
      case measure=> simp [intOf];omega
   ·obtain rfl:k=kids.length:=by omega
    have hrow:=qC.row;simp only [de] at hrow;obtain ⟨b0,b1,b2,b3,dX,dS,dU,dT⟩:=eR hrow;have T0:=qC.zero;obtain ⟨z0,z1,z2,z3,z4,z5,b9,cc,cj⟩:=ew T0;obtain ⟨k6,rL⟩:∃ k6:MRe,k6=.node op jk ki set (a.map fun g=> ⟨g,0,none⟩) c ks mn mx mode n neg:=⟨_,rfl⟩;have mK:ks.length=kids.length:=qC.len;have hnb:kids.length=0→a=none:=qC.alX;have qB:k6.aw=df set.length jk ++ (a.toList ++ MRe.dN ks):=by
     rw [rL];simp only [MRe.aw];rw [Xj (fun h=> hnb (by omega))]
    have ZF:k6.l9=a.toList ++ MRe.rQ ks:=by
     rw [rL];simp only [MRe.l9];rw [Xj (fun h=> hnb (by omega))]
    have sn:k6.ab=MRe.ab (.node op sa sc set ka kc kids mn mx mode n neg):=by
     rw [rL];simp only [MRe.ab];rw [qC.adT,show (MRe.al kids).take kids.length=MRe.al kids by rw [←MRe.ee kids,List.take_length]]
    have cm:k6.aK wr:=by rw [rL];exact .hR qC.ib ⟨hH.we qC.iJ,qC.ok⟩
    have H5:=qC.CT;rw [←qB] at H5;have TJ:=qC.adx;rw [←ZF] at TJ;have ajt:w.heap.size=U:=aB.o.symm;have xY:=jv wr (U + 1) (H J op) (M jk set.length ki) (M (a.map fun g=> ⟨g,0,none⟩) kids.length c) (H J mn) (H J mx) (H J mode) (H J n) (F neg);have cw:=C (rm T0 (H J op) (M jk set.length ki) (M (a.map fun g=> ⟨g,0,none⟩) kids.length c) (H J mn) (H J mx) (H J mode) (H J n) (F neg));have hne:∀ b∈k6.aw,b ∉ [U + 1]:=fun b ad=> by have:=(H5.2 b ad).1;simp;omega
    have afw:=C (show Vc w (MRe.ab (.node op sa sc set ka kc kids mn mx mode n neg)) (.returned k6.val) (hE wr (U + 1) (H J op) (M jk set.length ki) (M (a.map fun g=> ⟨g,0,none⟩) kids.length c) (H J mn) (H J mx) (H J mode) (H J n) (F neg)) from
     ⟨k6,rfl,sn,cm.bG xY hne,qC.ah.cn xY (by intro x hx;simp at hx;subst hx;exact .inr (by omega)),⟨H5.1,fun b ad=> by have h1:=H5.2 b ad;have h2:=xY.size;omega⟩,TJ.bG xY (fun b ad=> (H5.2 b (MRe.xZ k6 b ad)).2) (fun b ad=> hne b (MRe.xZ k6 b ad))⟩)
    have tM:=C (show k6.val=.agg #[H J op,M jk set.length ki,M (a.map fun g=> ⟨g,0,none⟩) kids.length c,H J mn,H J mx,H J mode,H J n,F neg] by rw [rL,←mK];rfl);clear hrow T0 rL mK hnb qB ZF sn cm H5 TJ ajt xY hne qC;go_wp2;refine mA cw.o ?_;have h:=afw.o;rw [tM.o] at h;exact h
theorem alV:∀ (path:List Int) {m:MRe} {b o:Nat} {x:MRe × Nat × Nat},oG m b o path=some x→x.1.ab.bm≤m.ab.bm:=by
 intro path
 induction path with
 | nil=> intro m b o x h;simp only [oG,Option.some.injEq] at h;subst h;exact Nat.le_refl _
 | cons y r ih=>
  intro m b o x h;obtain ⟨op,sa,sc,set,ka,kc,kids,mn,mx,mode,n,neg⟩:=m
  by_cases hx:0≤y∧y < kids.length
  ·obtain ⟨i,rfl⟩:∃ i:Nat,y=(i:Int):=⟨y.toNat,by omega⟩;have hi:i < kids.length:=by omega
   cases ka with
   | none=> unfold oG at h;rw [if_pos hx] at h;cases h
   | some a=>
    unfold oG at h;rw [if_pos hx] at h;simp only [Int.toNat_natCast,List.getD_eq_getElem?_getD,List.getElem?_eq_getElem hi,Option.getD_some] at h;have h1:=ih h;have h2:=(lG (Nat.le_refl (MRe.node op sa sc set (some a) kc kids mn mx mode n neg).ab.bm)).2.2 _ (List.getElem_mem hi);omega
  ·rw [It hx] at h;cases h
theorem W7 (m:MRe) (path:List Int) (bP:Option Addr) (pc:Nat) (w:World) (aj:m.aK w) (hin:hr w bP path) (hl:path.length≤1000000) (ad:m.ab.bm≤1000000):
  Calls Tryz.prog 61 #[m.val,M bP path.length pc] w (pL w [] 7 (jW m.ab path)):=by
 obtain ⟨U,cd⟩:∃ U,U=w.heap.size:=⟨_,rfl⟩;obtain ⟨aE,cz⟩:∃ aE,aE=(w.alloc (.cells m.row.toArray 26)).alloc cO:=⟨_,rfl⟩;have cq:I [] w aE:=by rw [cz];exact I.a2 _ _ _
 have gg:aE.heap[U]? =some (.cells m.row.toArray 26 (0,0)):=by rw [cz,cd];exact (I.a1 _ _).heap (heap_alloc_new w _) (by simp)
 have aW:aE.heap[U + 1]? =some cO:=by rw [cz,cd];exact heap_alloc2_new w _ _
 have gj:=RW m U 0 path bP pc aE (fb.kq gg rfl) (aj.ah cq) (hin.bG cq (fun _ _=> by simp)) hl;have hat:=Ut path (m:=m) (b:=U) (o:=0) aj;obtain ⟨R,aY⟩:∃ R,R=oG m U 0 path:=⟨_,rfl⟩;rw [←aY] at gj hat;obtain ⟨pV,oA⟩:∃ pV,pV=jW m.ab path:=⟨_,rfl⟩;rw [←oA] at hat ⊢;have aeD:=C (show ∀ x,R=some x→x.1.ab.bm≤1000000 from fun x hx=> by have:=alV path (aY.symm.trans hx);omega);have gP:=C hat;have gj:=C gj;have aB:=C cd;have aH:=C cq;have ba:=C aW;obtain ⟨op,sa,sc,set,ka,kc,kids,mn,mx,mode,n,neg⟩:=m;simp only [MRe.row] at cz;have c7:=C cz;simp only [MRe.val];clear cd cz cq gg aW aY oA aj hin hl ad hat;go_enter Tryz.func61,Tryz.ntmps61
 go_upto_region 1 with fail
 rw [←c7.o,←aB.o];go_wp2_with fail
 refine Calls.mono gj.o ?_;rintro e w2 ⟨rfl,hk2,FB⟩;have aU:=C hk2;have aeP:=C FB;clear hk2 FB
 cases R with
 | none=>
  have aD:=C (show pV=none from gP.o.symm);simp only [Ix,Option.map_none];obtain ⟨z0,z1,z2,z3,z4,z5,b9,cc,cj,cw,bQ⟩:=gR aB.o aH.o aU.o ba.o;go_wp2;refine rt cw.o ?_;exact pL.dL aD.o rfl bQ.o
 | some x=>
  obtain ⟨mk,bb,mR⟩:=x;have aD:=C (show pV=some mk.ab from gP.o.symm);have SS:PE w2 mk bb mR:=aeP.o;have mD:=Rp mk w2 SS.ok (aeD.o _ rfl);obtain ⟨T,hT⟩:∃ T,T=mk.ab:=⟨_,rfl⟩;rw [←hT] at mD aD;have ix:=SS.Xg;obtain ⟨op3,dk,dm,set3,di,dj,kids3,cA,cC,cB,cv,cx⟩:=mk;have g:=ix.node;obtain ⟨bg,aV,a6,bl,bq,bE,bF,bH⟩:=id g;simp only [MRe.val] at mD;have mD:=C mD;simp only [Ix,Option.map_some];clear g ix SS hT;go_wp2_with fail
  refine Calls.mono mD.o ?_;rintro e bS ⟨ae,rfl,a7,aT,hk5,xV,_⟩;obtain ⟨q0,bN⟩:∃ q0,q0=ae:=⟨_,rfl⟩;rw [←bN] at a7 aT xV;have dt:=C bN;have dK:=C a7;have dA:=C aT;have wI:=C xV;have dr:=C (aU.o.trans hk5);have gn:U + 2≤w2.heap.size:=by have:=lt_of_block (aU.o.h ba.o);omega
  obtain ⟨bA,bB,bC,bD,bs,bt,bu,bo,bx,bw,bp,bz⟩:=ae;simp only [MRe.val];clear a7 aT hk5 xV bN bg aV a6 bl bq bE bF bH;obtain ⟨z0,z1,z2,z3,z4,z5,b9,cc,cj⟩:=ew (dr.o.h ba.o);obtain ⟨eo,ey,fS,fT⟩:=Ga (nd aB.o aH.o dr.o ba.o (by rw [←dt.o];exact dA.o) (show du (U + 2) [] (MRe.aw (.node bA bB bC bD bs bt bu bo bx bw bp bz)) by rw [←dt.o];exact fun b ad=> .inr (Nat.le_trans gn (wI.o.2 b ad).1)) (fun b ad=> by cases ad));go_wp2;refine rt eo.o ?_;exact pL.iI (.node bA bB bC bD bs bt bu bo bx bw bp bz) (by rw [aD.o,←dt.o,dK.o]) rfl ey.o fS.o fT.o
def x6:MRe→List Int→MRe→MRe
 | _,[],p=> p
 | .node op sa sc set ka kc kids mn mx mode n neg,x::r,p=> .node op sa sc set ka kc (kids.set x.toNat (x6 (kids.getD x.toNat .nil) r p)) mn mx mode n neg
@[reducible] def xj (w:World) (g o:Nat) (v0 v1 v2 v3 v4 v5 v6 v7:Value):World:=
 (((((((w.setCell ⟨g,o,none⟩ v0).setCell ⟨g,o + 1,none⟩ v1).setCell ⟨g,o + 2,none⟩ v2).setCell ⟨g,o + 3,none⟩ v3).setCell ⟨g,o + 4,none⟩ v4).setCell ⟨g,o + 5,none⟩ v5).setCell ⟨g,o + 6,none⟩ v6).setCell ⟨g,o + 7,none⟩ v7
theorem adn (w:World) (g o:Nat) (v0 v1 v2 v3 v4 v5 v6 v7:Value):I [g] w (xj w g o v0 v1 v2 v3 v4 v5 v6 v7):=
 ((((((((I.refl [g] w).setCell (p:=⟨g,o,none⟩) (.inl (by simp)) _).setCell (p:=⟨g,o + 1,none⟩) (.inl (by simp)) _).setCell (p:=⟨g,o + 2,none⟩) (.inl (by simp)) _).setCell (p:=⟨g,o + 3,none⟩) (.inl (by simp)) _).setCell (p:=⟨g,o + 4,none⟩) (.inl (by simp)) _).setCell (p:=⟨g,o + 5,none⟩) (.inl (by simp)) _).setCell (p:=⟨g,o + 6,none⟩) (.inl (by simp)) _).setCell (p:=⟨g,o + 7,none⟩) (.inl (by simp)) _
theorem anP {w:World} {g o Gn:Nat} (h:Gn < o∨o + 8≤Gn) (v0 v1 v2 v3 v4 v5 v6 v7:Value):(xj w g o v0 v1 v2 v3 v4 v5 v6 v7).cell? ⟨g,Gn,none⟩=w.cell? ⟨g,Gn,none⟩:=by
 have hne:∀ j,j < 8→(⟨g,o + j,none⟩:Addr)≠⟨g,Gn,none⟩:=fun j c8 he=> by have:=congrArg Addr.off he;simp only at this;omega
 unfold xj;rw [World.cell?_setCell_other _ _ _ _ (hne 7 (by omega)),World.cell?_setCell_other _ _ _ _ (hne 6 (by omega)),World.cell?_setCell_other _ _ _ _ (hne 5 (by omega)),World.cell?_setCell_other _ _ _ _ (hne 4 (by omega)),World.cell?_setCell_other _ _ _ _ (hne 3 (by omega)),World.cell?_setCell_other _ _ _ _ (hne 2 (by omega)),World.cell?_setCell_other _ _ _ _ (hne 1 (by omega)),World.cell?_setCell_other _ _ _ _ (show (⟨g,o,none⟩:Addr)≠⟨g,Gn,none⟩ from hne 0 (by omega))]
theorem anO {w:World} {g o:Nat} {m:MRe} {op sa sc set ka kc kids mn mx mode n neg} (h:fb w g o m):fb (xj w g o (H J op) (M sa set.length sc) (M ka kids.length kc) (H J mn) (H J mx) (H J mode) (H J n) (F neg)) g o (.node op sa sc set ka kc kids mn mx mode n neg):=by
 have hs:∀ j,j < 8→∃ v,w.cell? ⟨g,o + j,none⟩=some v:=fun j c8=> ⟨_,h j (by rw [MRe.rU];exact c8)⟩;have hex:∀ (W:World) (p:Addr) (v:Value) (j:Nat),(∃ u,W.cell? ⟨g,o + j,none⟩=some u)→∃ u,(W.setCell p v).cell? ⟨g,o + j,none⟩=some u:=fun W p v j ⟨u,cy⟩=> RowKit.cell?_setCell_some cy;have hne:∀ i j:Nat,i≠j→(⟨g,o + i,none⟩:Addr)≠⟨g,o + j,none⟩:=fun i j N1 he=> by have:=congrArg Addr.off he;simp only at this;omega
 intro j c8;rw [MRe.rU] at c8;unfold xj;obtain rfl | rfl | rfl | rfl | rfl | rfl | rfl | rfl:j=0∨j=1∨j=2∨j=3∨j=4∨j=5∨j=6∨j=7:=by omega
 ·rw [World.cell?_setCell_other _ _ _ _ (hne 7 0 (by omega)),World.cell?_setCell_other _ _ _ _ (hne 6 0 (by omega)),World.cell?_setCell_other _ _ _ _ (hne 5 0 (by omega)),World.cell?_setCell_other _ _ _ _ (hne 4 0 (by omega)),World.cell?_setCell_other _ _ _ _ (hne 3 0 (by omega)),World.cell?_setCell_other _ _ _ _ (hne 2 0 (by omega)),World.cell?_setCell_other _ _ _ _ (hne 1 0 (by omega))];obtain ⟨u,cy⟩:=hs 0 (by omega);exact World.cell?_setCell_same _ _ _ cy
 ·rw [World.cell?_setCell_other _ _ _ _ (hne 7 1 (by omega)),World.cell?_setCell_other _ _ _ _ (hne 6 1 (by omega)),World.cell?_setCell_other _ _ _ _ (hne 5 1 (by omega)),World.cell?_setCell_other _ _ _ _ (hne 4 1 (by omega)),World.cell?_setCell_other _ _ _ _ (hne 3 1 (by omega)),World.cell?_setCell_other _ _ _ _ (hne 2 1 (by omega))];obtain ⟨u,cy⟩:=hex _ ⟨g,o,none⟩ (H J op) 1 (hs 1 (by omega));exact World.cell?_setCell_same _ _ _ cy
 ·rw [World.cell?_setCell_other _ _ _ _ (hne 7 2 (by omega)),World.cell?_setCell_other _ _ _ _ (hne 6 2 (by omega)),World.cell?_setCell_other _ _ _ _ (hne 5 2 (by omega)),World.cell?_setCell_other _ _ _ _ (hne 4 2 (by omega)),World.cell?_setCell_other _ _ _ _ (hne 3 2 (by omega))];obtain ⟨u,cy⟩:=hex _ ⟨g,o + 1,none⟩ (M sa set.length sc) 2 (hex _ ⟨g,o,none⟩ (H J op) 2 (hs 2 (by omega)));exact World.cell?_setCell_same _ _ _ cy
 ·rw [World.cell?_setCell_other _ _ _ _ (hne 7 3 (by omega)),World.cell?_setCell_other _ _ _ _ (hne 6 3 (by omega)),World.cell?_setCell_other _ _ _ _ (hne 5 3 (by omega)),World.cell?_setCell_other _ _ _ _ (hne 4 3 (by omega))];obtain ⟨u,cy⟩:=hex _ ⟨g,o + 2,none⟩ (M ka kids.length kc) 3 (hex _ ⟨g,o + 1,none⟩ (M sa set.length sc) 3 (hex _ ⟨g,o,none⟩ (H J op) 3 (hs 3 (by omega))));exact World.cell?_setCell_same _ _ _ cy
 ·rw [World.cell?_setCell_other _ _ _ _ (hne 7 4 (by omega)),World.cell?_setCell_other _ _ _ _ (hne 6 4 (by omega)),World.cell?_setCell_other _ _ _ _ (hne 5 4 (by omega))];obtain ⟨u,cy⟩:=hex _ ⟨g,o + 3,none⟩ (H J mn) 4 (hex _ ⟨g,o + 2,none⟩ (M ka kids.length kc) 4 (hex _ ⟨g,o + 1,none⟩ (M sa set.length sc) 4 (hex _ ⟨g,o,none⟩ (H J op) 4 (hs 4 (by omega)))));exact World.cell?_setCell_same _ _ _ cy
 ·rw [World.cell?_setCell_other _ _ _ _ (hne 7 5 (by omega)),World.cell?_setCell_other _ _ _ _ (hne 6 5 (by omega))];obtain ⟨u,cy⟩:=hex _ ⟨g,o + 4,none⟩ (H J mx) 5 (hex _ ⟨g,o + 3,none⟩ (H J mn) 5 (hex _ ⟨g,o + 2,none⟩ (M ka kids.length kc) 5 (hex _ ⟨g,o + 1,none⟩ (M sa set.length sc) 5 (hex _ ⟨g,o,none⟩ (H J op) 5 (hs 5 (by omega))))));exact World.cell?_setCell_same _ _ _ cy
 ·rw [World.cell?_setCell_other _ _ _ _ (hne 7 6 (by omega))];obtain ⟨u,cy⟩:=hex _ ⟨g,o + 5,none⟩ (H J mode) 6 (hex _ ⟨g,o + 4,none⟩ (H J mx) 6 (hex _ ⟨g,o + 3,none⟩ (H J mn) 6 (hex _ ⟨g,o + 2,none⟩ (M ka kids.length kc) 6 (hex _ ⟨g,o + 1,none⟩ (M sa set.length sc) 6 (hex _ ⟨g,o,none⟩ (H J op) 6 (hs 6 (by omega)))))));exact World.cell?_setCell_same _ _ _ cy
 ·obtain ⟨u,cy⟩:=hex _ ⟨g,o + 6,none⟩ (H J n) 7 (hex _ ⟨g,o + 5,none⟩ (H J mode) 7 (hex _ ⟨g,o + 4,none⟩ (H J mx) 7 (hex _ ⟨g,o + 3,none⟩ (H J mn) 7 (hex _ ⟨g,o + 2,none⟩ (M ka kids.length kc) 7 (hex _ ⟨g,o + 1,none⟩ (M sa set.length sc) 7 (hex _ ⟨g,o,none⟩ (H J op) 7 (hs 7 (by omega))))))));exact World.cell?_setCell_same _ _ _ cy
theorem Uu:∀ (path:List Int) {m:MRe} {b o:Nat} {w:World} {x:MRe × Nat × Nat},m.aK w→oG m b o path=some x→(path=[]∧x=(m,b,o))∨x.2.1∈m.l9:=by
 intro path
 induction path with
 | nil=> intro m b o w x _ h;simp only [oG,Option.some.injEq] at h;exact .inl ⟨rfl,h.symm⟩
 | cons y r ih=>
  intro m b o w x aj h;obtain ⟨op,sa,sc,set,ka,kc,kids,mn,mx,mode,n,neg⟩:=m
  right
  by_cases hx:0≤y∧y < kids.length
  ·obtain ⟨i,rfl⟩:∃ i:Nat,y=(i:Int):=⟨y.toNat,by omega⟩;have hi:i < kids.length:=by omega
   obtain ⟨iw,off,rfl,_,_⟩:=aj.kids.ch.dy (by omega);rw [Is rfl i rfl hi] at h;simp only [MRe.l9,List.mem_append]
   rcases ih (aj.dy (List.getElem_mem hi)) h with ⟨_,rfl⟩ | hk
   ·left
    unfold df;rw [if_neg (by omega)]
    simp
   ·right
    have hmem:∀ (l:List MRe) (j:Nat) (c8:j < l.length) (c:Nat),c∈l[j].l9→c∈MRe.rQ l:=by
     intro l
     induction l with
     | nil=> intro j c8;simp at c8
     | cons a t ih3=>
      intro j c8 c hc;simp only [MRe.rQ,List.mem_append]
      cases j with
      | zero=> exact .inl hc
      | succ j=> exact .inr (ih3 j (by simpa using c8) c hc)
    exact hmem kids i hi _ hk
  ·rw [It hx] at h;cases h
theorem amx:∀ (path:List Int) {m p:MRe} {b o:Nat} {w:World} {x:MRe × Nat × Nat},m.aK w→oG m b o path=some x→lI m.ab path p.ab=some (x6 m path p).ab:=by
 intro path
 induction path with
 | nil=> intro m p b o w x _ _;rfl
 | cons y r ih=>
  intro m p b o w x aj h;obtain ⟨op,sa,sc,set,ka,kc,kids,mn,mx,mode,n,neg⟩:=m
  by_cases hx:0≤y∧y < kids.length
  ·obtain ⟨i,rfl⟩:∃ i:Nat,y=(i:Int):=⟨y.toNat,by omega⟩;have hi:i < kids.length:=by omega
   obtain ⟨iw,off,rfl,_,_⟩:=aj.kids.ch.dy (by omega);rw [Is rfl i rfl hi] at h;have h1:=ih (p:=p) (aj.dy (List.getElem_mem hi)) h
   show (if 0≤(i:Int)∧(i:Int) < (MRe.al kids).length then (lI ((MRe.al kids).getD (i:Int).toNat .nil) r p.ab).map fun k=> ze (MRe.ab (.node op sa sc set (some ⟨iw,off,none⟩) kc kids mn mx mode n neg)) ((MRe.al kids).take (i:Int).toNat ++ (k::(MRe.al kids).drop ((i:Int).toNat + 1))) else none)=_
   rw [MRe.ee,if_pos hx,Int.toNat_natCast,List.getD_eq_getElem?_getD,List.getElem?_eq_getElem (by rw [MRe.ee];exact hi),Option.getD_some,kQ,h1];simp only [Option.map_some,x6,MRe.ab,ze,Int.toNat_natCast,List.getD_eq_getElem?_getD,List.getElem?_eq_getElem hi,Option.getD_some]
   congr 2
   rw [MRe.kP,MRe.kP,List.map_set,List.set_eq_take_append_cons_drop,if_pos (by rw [List.length_map];exact hi)];exact hi
  ·rw [It hx] at h;cases h
theorem ah8 {l:List MRe} (h:(MRe.dN l).Nodup) {i j:Nat} (hi:i < l.length) (c8:j < l.length) (N1:i≠j):∀ b∈l[i].aw,b ∉ l[j].aw:=by
 induction l generalizing i j with
 | nil=> simp at hi
 | cons x r ih=>
  rw [MRe.dN,List.nodup_append] at h;obtain ⟨h1,h2,h3⟩:=h;intro b ad m5
  cases i with
  | zero=>
   cases j with
   | zero=> exact N1 rfl
   | succ j=> exact h3 b ad b (MRe.mQ (List.getElem_mem (by simpa using c8)) m5) rfl
  | succ i=>
   cases j with
   | zero=> exact h3 b m5 b (MRe.mQ (List.getElem_mem (by simpa using hi)) ad) rfl
   | succ j=> exact ih h2 (by simpa using hi) (by simpa using c8) (by omega) b ad m5
theorem ah9 {l:List MRe} (h:(MRe.dN l).Nodup) {i:Nat} (hi:i < l.length):l[i].aw.Nodup:=by
 induction l generalizing i with
 | nil=> simp at hi
 | cons x r ih=>
  rw [MRe.dN,List.nodup_append] at h
  cases i with
  | zero=> exact h.1
  | succ i=> exact ih h.2.1 (by simpa using hi)
theorem amw {w:World} {bb mR:Nat} {mk p:MRe} {v0 v1 v2 v3 v4 v5 v6 v7:Value} (hp:p.aK (xj w bb mR v0 v1 v2 v3 v4 v5 v6 v7)) (Oe:fb (xj w bb mR v0 v1 v2 v3 v4 v5 v6 v7) bb mR p):
  ∀ (path:List Int) {m:MRe} {b o:Nat},m.aK w→fb w b o m→b ∉ m.aw→m.aw.Nodup→oG m b o path=some (mk,bb,mR)→
   (x6 m path p).aK (xj w bb mR v0 v1 v2 v3 v4 v5 v6 v7)∧fb (xj w bb mR v0 v1 v2 v3 v4 v5 v6 v7) b o (x6 m path p):=by
 have hk:=adn w bb mR v0 v1 v2 v3 v4 v5 v6 v7;intro path
 induction path with
 | nil=> intro m b o _ _ _ _ h;simp only [oG,Option.some.injEq,Prod.mk.injEq] at h;obtain ⟨rfl,rfl,rfl⟩:=h;exact ⟨hp,Oe⟩
 | cons y r ih=>
  intro m b o aj ix ad aae h;obtain ⟨op,sa,sc,set,ka,kc,kids,mn,mx,mode,n,neg⟩:=m
  by_cases hx:0≤y∧y < kids.length
  ·obtain ⟨i,rfl⟩:∃ i:Nat,y=(i:Int):=⟨y.toNat,by omega⟩;have hi:i < kids.length:=by omega
   obtain ⟨l9,off,rfl,mK,hkx⟩:=aj.kids.ch.dy (by omega);rw [Is rfl i rfl hi] at h;have qB:MRe.aw (.node op sa sc set (some ⟨l9,off,none⟩) kc kids mn mx mode n neg)=df set.length sa ++ ([l9] ++ MRe.dN kids):=by
    simp only [MRe.aw];unfold df;rw [if_neg (show ¬ kids.length=0 by omega)];rfl
   rw [qB] at ad aae;obtain ⟨n1,bn,cv⟩:=List.nodup_append.1 aae;obtain ⟨eQ,cu,fm⟩:=List.nodup_append.1 bn;have ZG:l9 ∉ MRe.dN kids:=fun hm=> fm l9 (by simp) l9 hm rfl;have ZE:l9 ∉ kids[i].aw:=fun hm=> ZG (MRe.mQ (List.getElem_mem hi) hm);obtain ⟨i1,i2⟩:=ih (aj.dy (List.getElem_mem hi)) (hkx i hi) ZE (ah9 cu hi) h;have lk:bb=l9∨bb∈kids[i].aw:=by
    rcases Uu r (aj.dy (List.getElem_mem hi)) h with ⟨_,he⟩ | hm
    ·simp only [Prod.mk.injEq] at he;exact .inl he.2.1
    ·exact .inr (MRe.xZ _ _ hm)
   have aku:bb=l9→mR=off + i * 8:=fun he=> by
    rcases Uu r (aj.dy (List.getElem_mem hi)) h with ⟨_,Fz⟩ | hm
    ·simp only [Prod.mk.injEq] at Fz;exact Fz.2.2
    ·exact absurd (MRe.xZ _ _ hm) (by rw [he];exact ZE)
   have rI:bb∈[l9] ++ MRe.dN kids:=by
    rcases lk with rfl | hm
    ·simp
    ·exact List.mem_append_right _ (MRe.mQ (List.getElem_mem hi) hm)
   have ajH:b≠bb:=fun he=> ad (List.mem_append_right _ (by rw [he];exact rI));have tx:∀ ae∈df set.length sa,ae ∉ [bb]:=fun ae hq hm=> by simp at hm;subst hm;exact cv ae hq ae rI rfl
   have hjk:∀ j (c8:j < kids.length),j≠i→∀ ae∈kids[j].aw,ae ∉ [bb]:=fun j c8 DR ae hq hm=> by
    simp at hm;subst hm
    rcases lk with he | hm
    ·rw [he] at hq;exact ZG (MRe.mQ (List.getElem_mem c8) hq)
    ·exact ah8 cu c8 hi DR ae hq hm
   simp only [x6,Int.toNat_natCast,List.getD_eq_getElem?_getD,List.getElem?_eq_getElem hi,Option.getD_some];refine ⟨.hR (aj.nV.bG hk tx) ⟨⟨by rw [List.length_set];exact aj.ch.le,aj.ch.cap,aj.ch.Ei,fun h0=> ⟨l9,off,rfl,Nat.lt_of_lt_of_le mK hk.size,fun j c8 t ht=> ?_⟩⟩,fun x hx=> ?_⟩,fun j c8=> ?_⟩
   ·rw [List.length_set] at c8
    by_cases DR:j=i
    ·subst DR
     have:=i2 t (by simpa using ht)
     simpa using this
    ·have hg:(kids.set i (x6 kids[i] r p))[j]'(by rw [List.length_set];exact c8)=kids[j]:=by rw [List.getElem_set];exact if_neg (Ne.symm DR)
     have h1:=hkx j c8 t (by rw [MRe.rU] at ht ⊢;exact ht);simp only [hg]
     by_cases gC:bb=l9
     ·have ds:=aku gC;rw [MRe.rU] at ht;subst gC;rw [anP (by omega),h1]
     ·rw [hk.cell h1 (by simp;exact fun he=> gC he.symm)]
   ·obtain ⟨j,c8,rfl⟩:=List.getElem_of_mem hx;rw [List.length_set] at c8
    by_cases DR:j=i
    ·subst DR;simpa using i1
    ·have hg:(kids.set i (x6 kids[i] r p))[j]'(by rw [List.length_set];exact c8)=kids[j]:=by rw [List.getElem_set];exact if_neg (Ne.symm DR)
     rw [hg];exact (aj.dy (List.getElem_mem c8)).bG hk (hjk j c8 DR)
   ·have hrow:(MRe.row (.node op sa sc set (some ⟨l9,off,none⟩) kc (kids.set i (x6 kids[i] r p)) mn mx mode n neg))=MRe.row (.node op sa sc set (some ⟨l9,off,none⟩) kc kids mn mx mode n neg):=by simp only [MRe.row,List.length_set]
    have h1:=ix j (by rw [←hrow];exact c8);simp only [hrow];exact hk.cell h1 (by simp;exact ajH)
  ·rw [It hx] at h;cases h
theorem alW {path:List Int} {m:MRe} {b o:Nat} {w:World} (aj:m.aK w) (h:oG m b o path=none) (p:Tree):lI m.ab path p=none:=by
 induction path generalizing m b o with
 | nil=> simp [oG] at h
 | cons y r ih=>
  obtain ⟨op,sa,sc,set,ka,kc,kids,mn,mx,mode,n,neg⟩:=m
  show (if 0≤y∧y < (MRe.al kids).length then (lI ((MRe.al kids).getD y.toNat .nil) r p).map _ else none)=none
  rw [MRe.ee]
  by_cases hx:0≤y∧y < kids.length
  ·obtain ⟨i,rfl⟩:∃ i:Nat,y=(i:Int):=⟨y.toNat,by omega⟩;have hi:i < kids.length:=by omega
   obtain ⟨iw,off,rfl,_,_⟩:=aj.kids.ch.dy (by omega);rw [Is rfl i rfl hi] at h;rw [if_pos hx,Int.toNat_natCast,List.getD_eq_getElem?_getD,List.getElem?_eq_getElem (by rw [MRe.ee];exact hi),Option.getD_some,kQ _ _ hi,ih (aj.dy (List.getElem_mem hi)) h]
   rfl
  ·rw [if_neg hx]
theorem amv:∀ (path:List Int) {m p:MRe},∀ b∈(x6 m path p).aw,b∈m.aw∨b∈p.aw:=by
 intro path
 induction path with
 | nil=> intro m p b ad;exact .inr ad
 | cons y r ih=>
  intro m p b ad;obtain ⟨op,sa,sc,set,ka,kc,kids,mn,mx,mode,n,neg⟩:=m;simp only [x6,MRe.aw,List.length_set,List.mem_append] at ad ⊢
  rcases ad with h | h | h
  ·exact .inl (.inl h)
  ·exact .inl (.inr (.inl h))
  ·obtain ⟨x,hx,j6⟩:=MRe.tm h
   rcases List.mem_or_eq_of_mem_set hx with hx | rfl
   ·exact .inl (.inr (.inr (MRe.mQ hx j6)))
   ·rcases ih b j6 with h | h
    ·left;right;right
     by_cases hy:y.toNat < kids.length
     ·rw [List.getD_eq_getElem?_getD,List.getElem?_eq_getElem hy,Option.getD_some] at h;exact MRe.mQ (List.getElem_mem hy) h
     ·rw [List.getD_eq_getElem?_getD,List.getElem?_eq_none (by omega)] at h;simp [MRe.nil,MRe.aw,MRe.dN,df] at h
    ·exact .inr h
end Go.Proofs.YtjnlkjlbejelgaaGreat
