/- Part of the proof. No condition: every lemma says its own. -/
import Derived.Lib.AppendZeros
import Derived.Test.YtjnlkjlbejelgaaGreatRSPab
namespace Go.Proofs.YtjnlkjlbejelgaaGreat
open Go.RowKit
open Go.Value renaming int→H,slice→M,bool→F
open Go.IntKind renaming i64→J
set_option maxRecDepth 100000
set_option maxHeartbeats 16000000
theorem acT (m:MRe):∀ (w:World),m.aK w→m.ab.bm≤1000000→
  Calls Tryz.prog 46 #[m.val] w fun e w'=> ∃ ja:MRe,e=.returned ja.val∧ja.ab=m.ab∧ja.aK w'∧I [] w w'∧lV w.heap.size ja.aw:=by
 induction m using MRe.nq with
 | h op sa sc set ka kc kids mn mx mode n neg ih=>
  intro w aj hbk;obtain ⟨hbl,Cq,rI⟩:=lG hbk;obtain ⟨gq,hi,dQ,fj,eI⟩:=info_parts Eb;have gH:=C hi;have gI:=C dQ;have gJ:=C fj;have gK:=C eI;have ML:=C (fun W (h:I [] w W)=> ady sa sc set W (aj.nV.ah h) Cq);have hcap:=aj.ch.cap;have fc:=aj.ch.le;unfold maxLen at hcap;have iL:=C aj.kids;have ff:=C ih;have GR:=C rI;have oC:∀ w:World,(Instr.makeSlice 24 (H J 0) (H J kids.length)).run Tryz.prog w=.ok (M (some ⟨w.heap.size,0,none⟩) 0 kids.length) (w.alloc (.cells (madeCells #[H J 0,M none 0 0,M none 0 0,H J 0,H J 0,H J 0,H J 0,F false] (kids.length * 8)) 26)):=fun w=> by
   have h:=run_make (P:=Tryz.prog) w 24 26 gq _ Tryz.underlying24 hi dQ .i64 .i64 0 kids.length (by omega) (by omega) (by rw [eI];omega) (by omega);rw [fj] at h;exact h
  clear hi dQ fj eI ih aj hbk rI;simp only [MRe.val];go_enter Tryz.func46,Tryz.ntmps46
  go_wp2_with fail
  refine Calls.mono (ML.o _ (I.a2 w _ _)) ?_;rintro e w3 ⟨jk,ki,rfl,dF,aP,hfr⟩;have Cp:w3.heap[w.heap.size]? =some (bf op sa set sc ka kids kc mn mx mode n neg):=
   aP.heap (((I.a1 _ _).heap (heap_alloc_new w _) (by simp))) (by simp)
  have H4:w3.heap[w.heap.size + 1]? =some cO:=
   aP.heap (heap_alloc2_new w _ _) (by simp)
  have cZ:w.heap.size + 2≤w3.heap.size:=by have:=aP.size;simp at this;omega
  have SV:lV (w.heap.size + 2) (df set.length jk):=hfr.mono (by simp only [World.alloc,Array.size_push];omega);obtain ⟨U,gA⟩:∃ U,U=w.heap.size:=⟨_,rfl⟩;have iX:=C ((I.a2 w _ _).trans aP);rw [←gA] at Cp H4 SV cZ;rw [←gA];have si:w.heap.size≤U:=by omega
  have aV:w3.cell? ⟨U,2,none⟩=some (M ka kids.length kc):=by simp [World.cell?,Cp]
  have a6:w3.frozen? ⟨U,1,none⟩=false:=by simp [World.frozen?,Cp]
  have bl:w3.cell? ⟨U,1,none⟩=some (M sa set.length sc):=by simp [World.cell?,Cp]
  have fp:=C dF;have iP:=C SV;have Vr:=C Cp;have VY:=C H4;clear gA Cp H4 hfr SV dF aP;go_upto_region 2 with fail
  have SM:(w3.setCell ⟨U,1,none⟩ (M jk set.length ki)).heap[U]? =some (bf op jk set ki ka kids kc mn mx mode n neg):=heap_setCell_same w3 U 1 _ 26 _ Vr.o;have aaF:=(heap_setCell_other w3 ⟨U,1,none⟩ (U + 1) (M jk set.length ki) (by simp)).trans VY.o;have mj:I [U] w3 (w3.setCell ⟨U,1,none⟩ (M jk set.length ki)):=(I.refl _ _).setCell (.inl (by simp)) _;have aaS:=fp.o.bG mj (fun b ad=> by have:=iP.o b ad;simp;omega);have aH:=C (iX.o.cn mj (by intro x hx;simp at hx;subst hx;exact .inr si));have akJ:U + 2≤(w3.setCell ⟨U,1,none⟩ (M jk set.length ki)).heap.size:=by have:=mj.size;omega
  clear aV a6 bl Vr VY fp iX mj cZ
  generalize w3.setCell ⟨U,1,none⟩ (M jk set.length ki)=aE at *
  have aV:aE.cell? ⟨U,2,none⟩=some (M ka kids.length kc):=by simp [World.cell?,SM]
  have jc:=C SM;have xw:=C aaF;have vF:=C aaS;clear SM aaF aaS;go_upto_region 3 with fail
  have Ii:=I.a1 aE (.cells (madeCells #[H J 0,M none 0 0,M none 0 0,H J 0,H J 0,H J 0,H J 0,F false] (kids.length * 8)) 26);have UU:cr (aE.alloc (.cells (madeCells #[H J 0,M none 0 0,M none 0 0,H J 0,H J 0,H J 0,H J 0,F false] (kids.length * 8)) 26)) 26 8 (some aE.heap.size) 0 kids.length []:=
   ⟨by simp,_,heap_alloc_new aE _,by omega,by unfold maxLen;omega,size_madeCells _ _,by simp⟩
  have aJ:=Ii.c aV;have wA:=C (Ii.h jc.o);have afN:=C (Ii.h xw.o);have xx:=C (vF.o.ah Ii);have vy:=C (aH.o.trans Ii);have aQ:=vF.o.fi;obtain ⟨aG,fP⟩:∃ aG,aG=aE.heap.size:=⟨_,rfl⟩;rw [←fP] at UU aQ ⊢;have eU:=C aQ;clear aQ;have nK:U + 2≤aG:=by omega
  have hU:=C UU;clear aV Ii UU jc xw vF aH fP akJ
  generalize aE.alloc (.cells (madeCells #[H J 0,M none 0 0,M none 0 0,H J 0,H J 0,H J 0,H J 0,F false] (kids.length * 8)) 26)=aA at *
  go_wp2
  go_loopw [3,17] (fun v i wr=> ∃ (k:Nat) (dZ:Option Nat) (c':Nat) (ks:List MRe),k≤kids.length∧i=H J k∧v=de dZ k c'∧ks.length=k∧cr wr 26 8 dZ k c' (fX ks)∧MRe.al ks=(MRe.al kids).take k∧(∀ x∈ks,x.aK wr∧∀ b∈x.aw,U + 2≤b∧dZ≠some b)∧(∀ g,dZ=some g→U + 2≤g)∧
   wr.heap[U]? =some (bf op jk set ki ka kids kc mn mx mode n neg)∧wr.heap[U + 1]? =some cO∧(eK wr jk ki set∧∀ b∈df set.length jk,dZ≠some b)∧I [] w wr) (fun _ i _=> kids.length - (intOf i).toNat)
  case atStart=> exact ⟨0,some aG,kids.length,[],Nat.zero_le _,rfl,rfl,rfl,hU.o,rfl,by simp,by simpa using nK,wA.o,afN.o,⟨xx.o,fun b ad h=> by have:=eU.o b ad;cases h;omega⟩,vy.o⟩
  case round=>
   obtain ⟨k,dZ,c',ks,hk,rfl,rfl,mK,dd,sn,hks,hag,Cp,H4,⟨dF,hspb⟩,ck⟩:=hrel;have cX:=C ck;have QE:=C dd;have xq:=C mK;have tQ:=C sn;have fZ:=C hks;have zo:=C hag;have I5:=C Cp;have jr:=C H4;have MP:=C dF;have V4:=C hspb;clear dd sn hks hag Cp H4 dF hspb mK
   by_cases aQ:k < kids.length
   ·obtain ⟨b,off,rfl,ad,hx⟩:=(iL.o.ah ck).ch.dy (by omega);have v8:=hx k aQ;have cm:=(iL.o.ah ck).all kids[k] (List.getElem_mem aQ);have iU:=C (fun W (h:I [] wr W)=> ff.o kids[k] (List.getElem_mem aQ) W (cm.ah h) (GR.o _ (List.getElem_mem aQ)));have Aj:(MRe.al kids).take (k + 1)=(MRe.al kids).take k ++ [kids[k].ab]:=by
     rw [List.take_succ_eq_append_getElem (by rw [MRe.ee];exact aQ)];simp [MRe.kP]
    have tP:=C Aj
    generalize kids[k]=kk at *
    obtain ⟨op1,aM,aN,set1,aS,kc1,aq,mn1,aI,mode1,n1,aL⟩:=kk;have g:=v8.node;obtain ⟨ar,c1,c2,an,av,ay,ax,az⟩:=id g;simp only [MRe.val] at iU;clear g hx v8 cm ck Aj ff GR;go_wp2_with fail
    refine Calls.mono (iU.o _ (I.a1 wr _)) ?_;rintro e bS ⟨ja,rfl,i6,hW,hk5,hf5⟩;have gC:I [] wr bS:=(I.a1 wr _).trans hk5;have yM:=gC.size;have qY:=C hW;have af1:=C i6;have Y9:lV (wr.heap.size + 1) ja.aw:=hf5.mono (by simp);have qj:=C Y9;have sB:=C gC;have hrow:ja.row=fX [ja]:=by simp [fX]
    have hone:=wT [ja];rw [←hrow] at hone;obtain ⟨bW,cQ⟩:∃ bW,bW=ja:=⟨_,rfl⟩;have jo:=C cQ;obtain ⟨op2,cg,cf,bj,ct,kc2,a8,mn2,bY,bX,bn,bZ⟩:=ja;simp only [MRe.row] at hone;dsimp only;have Qt:=C hone;clear hW i6 hf5 Y9 gC hrow hone cQ ar c1 c2 an av ay ax az iU hk5
    go_wp2_with (at_builtin;refine yb rfl (.tmp 21) (.tmp 24) 24 rfl 26 gq _ 8 96 Tryz.underlying24 gH.o gI.o gJ.o gK.o rfl (by decide) dZ k c' _ rfl ((QE.o.ah sB.o (by simp)).alloc _) ⟨bS.heap.size,0,none⟩ 1 1 [H J op2,M cg bj.length cf,M ct a8.length kc2,H J mn2,H J bY,H J bX,H J bn,F bZ] rfl rfl (x4 _ _ _ _ rfl) Qt.o (by decide) (by omega) (by omega) ?hk)
    case hk=>
     intro dz ax hG CB hV xN;have Ij:I dZ.toList wr hG:=((sB.o.alloc _).mono (by simp)).trans hV;have akQ:U + 1 < wr.heap.size:=lt_of_block jr.o;have hal:∀ y,dZ=some y→y < wr.heap.size:=fun y hy=> by subst hy;exact QE.o.lt
     have uV:dZ=some dz∨bS.heap.size + 1≤dz:=by
      rcases xN with h | h
      ·exact .inl h
      ·right;simpa using h
     have HJ:∀ x∈ks ++ [bW],x.aK hG∧∀ b∈x.aw,U + 2≤b∧some dz≠some b:=by
      intro x hx
      rcases List.mem_append.1 hx with hx | hx
      ·obtain ⟨h1,h2⟩:=fZ.o x hx;refine ⟨h1.bG Ij fun b ad h=> (h2 b ad).2 (by simpa using h),fun b ad=> ⟨(h2 b ad).1,fun h=> ?_⟩⟩;have h3:=h1.fi b ad
       rcases uV with h7 | h7
       ·exact (h2 b ad).2 (by rw [h7,h])
       ·cases h;omega
      ·simp at hx;subst hx;rw [jo.o];refine ⟨(qY.o.ah (I.a1 bS _)).bG hV fun b ad h=> ?_,fun b ad=> ?_⟩
       ·have h3:=qj.o b ad;have h4:=hal b (by simpa using h);omega
       ·have h3:=qj.o b ad;have h4:=qY.o.fi b ad;refine ⟨by omega,fun h=> ?_⟩
        cases h
        rcases uV with h7 | h7
        ·have:=hal _ h7;omega
        ·omega
     have KL:∀ z,some dz=some z→U + 2≤z:=by
      intro z aW
      cases aW
      rcases uV with h7 | h7
      ·exact zo.o _ h7
      ·omega
     have aaa:U ∉ dZ.toList:=fun h=> by have:=zo.o U (by simpa using h);omega
     have aab:U + 1 ∉ dZ.toList:=fun h=> by have:=zo.o (U + 1) (by simpa using h);omega
     have YU:=Ij.heap I5.o aaa;have aaD:=Ij.heap jr.o aab;have D3:=MP.o.bG Ij (fun b ad h=> V4.o b ad (by simpa using h));have aaL:∀ b∈df set.length jk,some dz≠some b:=by
      intro b ad h
      rcases uV with h7 | h7
      ·exact V4.o b ad (by rw [h7,h])
      ·have:=MP.o.fi b ad;cases h;omega
     have ZM:I [] w hG:=cX.o.cn Ij (by intro x hx;simp at hx;have:=zo.o x hx;exact .inr (by omega));have aaW:MRe.al (ks ++ [bW])=(MRe.al kids).take (k + 1):=by
      rw [adU,tQ.o,tP.o]
      congr 1
      simp only [MRe.al,jo.o,af1.o]
     have F2:cr hG 26 8 (some dz) (k + 1) ax (fX (ks ++ [bW])):=by
      rw [Cf]
      have:fX [bW]=[H J op2,M cg bj.length cf,M ct a8.length kc2,H J mn2,H J bY,H J bX,H J bn,F bZ]:=by rw [jo.o];rfl
      rw [this];exact CB
     have PV:=C HJ;have PL:=C KL;have aeA:=C YU;have yu:=C aaD;have Js:=C D3;have afR:=C aaL;have ae6:=C ZM;have af3:=C aaW;have afT:=C F2;clear HJ KL YU aaD D3 aaL ZM aaW F2 CB hV xN uV Ij hal akQ aaa aab;go_wp2;go_roundw
     case rel=> exact ⟨k + 1,some dz,ax,ks ++ [bW],by omega,by go_num,rfl,by rw [List.length_append,xq.o];rfl,afT.o,af3.o,PV.o,PL.o,aeA.o,yu.o,⟨Js.o,afR.o⟩,ae6.o⟩
     case measure=> simp [intOf];omega
   ·obtain rfl:k=kids.length:=by omega
    clear ck ff;have a6:wr.frozen? ⟨U,2,none⟩=false:=by simp [World.frozen?,I5.o]
    have bl:wr.cell? ⟨U,2,none⟩=some (M ka kids.length kc):=by simp [World.cell?,I5.o]
    simp only [de];go_upto_region 9 with fail
    have mj:I [U] wr (wr.setCell ⟨U,2,none⟩ (M (dZ.map fun g=> ⟨g,0,none⟩) kids.length c')):=(I.refl _ _).setCell (.inl (by simp)) _;have wY:(wr.setCell ⟨U,2,none⟩ (M (dZ.map fun g=> ⟨g,0,none⟩) kids.length c')).heap[U]? =some (bf op jk set ki (dZ.map fun g=> ⟨g,0,none⟩) kids c' mn mx mode n neg):=heap_setCell_same wr U 2 _ 26 _ I5.o;have Lr:=mj.h jr.o;have cq:gT (wr.setCell ⟨U,2,none⟩ (M (dZ.map fun g=> ⟨g,0,none⟩) kids.length c')) (dZ.map fun g=> ⟨g,0,none⟩) c' ks:=
     ⟨(hH.we QE.o).bG mj (fun b ad=> by have:=(lV.zJ zo.o) b ad;simp;omega),fun x hx=> (fZ.o x hx).1.bG mj (fun b ad=> by have:=((fZ.o x hx).2 b ad).1;simp;omega)⟩
    have aaJ:=MP.o.bG mj (fun b ad=> by have:=iP.o b ad;simp;omega);have ZN:=cX.o.cn mj (by intro x hx;simp at hx;subst hx;exact .inr si);have jc:=C wY;have xw:=C Lr;have aH:=C cq;have vF:=C aaJ;have P9:=C ZN;clear a6 bl mj wY Lr cq aaJ ZN I5 jr MP cX
    generalize wr.setCell ⟨U,2,none⟩ (M (dZ.map fun g=> ⟨g,0,none⟩) kids.length c')=aE at *
    have bK:aE.cell? ⟨U,0,none⟩=some (H J op):=by simp [World.cell?,jc.o]
    have d1:aE.cell? ⟨U,1,none⟩=some (M jk set.length ki):=by simp [World.cell?,jc.o]
    have d2:aE.cell? ⟨U,2,none⟩=some (M (dZ.map fun g=> ⟨g,0,none⟩) kids.length c'):=by simp [World.cell?,jc.o]
    have bL:aE.cell? ⟨U,3,none⟩=some (H J mn):=by simp [World.cell?,jc.o]
    have bO:aE.cell? ⟨U,4,none⟩=some (H J mx):=by simp [World.cell?,jc.o]
    have bT:aE.cell? ⟨U,5,none⟩=some (H J mode):=by simp [World.cell?,jc.o]
    have bU:aE.cell? ⟨U,6,none⟩=some (H J n):=by simp [World.cell?,jc.o]
    have bV:aE.cell? ⟨U,7,none⟩=some (F neg):=by simp [World.cell?,jc.o]
    have api:=C (lt_of_block xw.o)
    by_cases aW:kids.length=0
    ·have rK:kids=[]:=List.eq_nil_of_length_eq_zero aW;subst rK;have cP:aE.frozen? ⟨U,2,none⟩=false:=by simp [World.frozen?,jc.o]
     go_upto_region 11 with fail
     have YV:(aE.setCell ⟨U,2,none⟩ (M none 0 0)).heap[U]? =some (.cells #[H J op,M jk set.length ki,M none 0 0,H J mn,H J mx,H J mode,H J n,F neg] 26 (0,0)):=heap_setCell_same aE U 2 _ 26 _ jc.o;have OG:I [U] aE (aE.setCell ⟨U,2,none⟩ (M none 0 0)):=(I.refl _ _).setCell (.inl (by simp)) _;have aaE:=OG.h xw.o;have aaK:=vF.o.bG OG (fun b ad=> by have:=iP.o b ad;simp;omega);have lW:=C (P9.o.cn OG (by intro x hx;simp at hx;subst hx;exact .inr si));have PQ:=C YV;have VZ:=C aaE;have oo:=C aaK;clear bK d1 d2 bL bO bT bU bV cP OG YV aaE aaK jc xw vF P9
     generalize aE.setCell ⟨U,2,none⟩ (M none 0 0)=fO at *
     go_wp2_with ((refine wpList_load_row rfl 26 (.tmp 1) rfl U rfl 26 #[H J op,M jk set.length ki,M none 0 0,H J mn,H J mx,H J mode,H J n,F neg] (0,0) _ PQ.o Tryz.underlying26 rfl mB (wpList_store_row rfl 26 (.tmp 2) (.tmp 33) rfl (U + 1) #[H J op,M jk set.length ki,M none 0 0,H J mn,H J mx,H J mode,H J n,F neg] rfl rfl 26 _ VZ.o mB rfl (Pf _ _ _ _ _ _ _ _ _ _ _ _) ?_)))
     have aY:=setRow_heap fO (U + 1) _ #[H J op,M jk set.length ki,M none 0 0,H J mn,H J mx,H J mode,H J n,F neg] 26 (0,0) VZ.o;have Ih:I [U + 1] fO (fO.setRow (U + 1) #[H J op,M jk set.length ki,M none 0 0,H J mn,H J mx,H J mode,H J n,F neg]):=(I.refl _ _).setRow (.inl (by simp)) _;refine mA aY ?_;refine ⟨.node op jk ki set none 0 [] mn mx mode n neg,rfl,rfl,?_,lW.o.cn Ih (by intro x hx;simp at hx;subst hx;exact .inr (by omega)),?_⟩
     ·exact .hR (oo.o.bG Ih (fun b ad=> by have:=iP.o b ad;simp;omega)) (gT.nil _)
     ·exact (iP.o.mono (by omega)).append ((lV.nil _).append (lV.nil _))
    ·go_wp2_with ((refine wpList_load_row rfl 26 (.tmp 1) rfl U rfl 26 #[H J op,M jk set.length ki,M (dZ.map fun g=> ⟨g,0,none⟩) kids.length c',H J mn,H J mx,H J mode,H J n,F neg] (0,0) _ jc.o Tryz.underlying26 rfl mB (wpList_store_row rfl 26 (.tmp 2) (.tmp 33) rfl (U + 1) #[H J op,M jk set.length ki,M (dZ.map fun g=> ⟨g,0,none⟩) kids.length c',H J mn,H J mx,H J mode,H J n,F neg] rfl rfl 26 _ xw.o mB rfl (Pf _ _ _ _ _ _ _ _ _ _ _ _) ?_)))
     have aY:=setRow_heap aE (U + 1) _ #[H J op,M jk set.length ki,M (dZ.map fun g=> ⟨g,0,none⟩) kids.length c',H J mn,H J mx,H J mode,H J n,F neg] 26 (0,0) xw.o;have Ih:I [U + 1] aE (aE.setRow (U + 1) #[H J op,M jk set.length ki,M (dZ.map fun g=> ⟨g,0,none⟩) kids.length c',H J mn,H J mx,H J mode,H J n,F neg]):=(I.refl _ _).setRow (.inl (by simp)) _;have Zb:=lV.zJ (n:=ks.length) zo.o;have Bj:lV (U + 2) (MRe.dN ks):=fun b ad=> by
      obtain ⟨x,hx,j6⟩:=MRe.tm ad;exact ((fZ.o x hx).2 b j6).1
     refine mA aY ?_;refine ⟨.node op jk ki set (dZ.map fun g=> ⟨g,0,none⟩) c' ks mn mx mode n neg,by simp only [xq.o],?_,?_,P9.o.cn Ih (by intro x hx;simp at hx;subst hx;exact .inr (by omega)),?_⟩
     ·simp only [MRe.ab,tQ.o];rw [←MRe.ee,List.take_length]
     ·exact .hR (vF.o.bG Ih (fun b ad=> by have:=iP.o b ad;simp;omega)) (aH.o.bG Ih (fun b ad=> by have:=(Zb.append Bj) b ad;simp;omega))
     ·exact (iP.o.mono (by omega)).append ((Zb.mono (by omega)).append (Bj.mono (by omega)))
@[reducible] def hE (w:World) (g:Nat) (v0 v1 v2 v3 v4 v5 v6 v7:Value):World:=
 (((((((w.setCell ⟨g,0,none⟩ v0).setCell ⟨g,1,none⟩ v1).setCell ⟨g,2,none⟩ v2).setCell ⟨g,3,none⟩ v3).setCell ⟨g,4,none⟩ v4).setCell ⟨g,5,none⟩ v5).setCell ⟨g,6,none⟩ v6).setCell ⟨g,7,none⟩ v7
theorem rm {w:World} {g T:Nat} (h:w.heap[g]? =some (.cells #[H J 0,M none 0 0,M none 0 0,H J 0,H J 0,H J 0,H J 0,F false] T (0,0))) (v0 v1 v2 v3 v4 v5 v6 v7:Value):(hE w g v0 v1 v2 v3 v4 v5 v6 v7).heap[g]? =some (.cells #[v0,v1,v2,v3,v4,v5,v6,v7] T (0,0)):=by
 have h0:(w.setCell ⟨g,0,none⟩ v0).heap[g]? =some (.cells #[v0,M none 0 0,M none 0 0,H J 0,H J 0,H J 0,H J 0,F false] T (0,0)):=heap_setCell_same _ g 0 _ T v0 h;have h1:((w.setCell ⟨g,0,none⟩ v0).setCell ⟨g,1,none⟩ v1).heap[g]? =some (.cells #[v0,v1,M none 0 0,H J 0,H J 0,H J 0,H J 0,F false] T (0,0)):=heap_setCell_same _ g 1 _ T v1 h0;have h2:(((w.setCell ⟨g,0,none⟩ v0).setCell ⟨g,1,none⟩ v1).setCell ⟨g,2,none⟩ v2).heap[g]? =some (.cells #[v0,v1,v2,H J 0,H J 0,H J 0,H J 0,F false] T (0,0)):=heap_setCell_same _ g 2 _ T v2 h1;have h3:((((w.setCell ⟨g,0,none⟩ v0).setCell ⟨g,1,none⟩ v1).setCell ⟨g,2,none⟩ v2).setCell ⟨g,3,none⟩ v3).heap[g]? =some (.cells #[v0,v1,v2,v3,H J 0,H J 0,H J 0,F false] T (0,0)):=heap_setCell_same _ g 3 _ T v3 h2;have h4:(((((w.setCell ⟨g,0,none⟩ v0).setCell ⟨g,1,none⟩ v1).setCell ⟨g,2,none⟩ v2).setCell ⟨g,3,none⟩ v3).setCell ⟨g,4,none⟩ v4).heap[g]? =some (.cells #[v0,v1,v2,v3,v4,H J 0,H J 0,F false] T (0,0)):=heap_setCell_same _ g 4 _ T v4 h3;have h5:((((((w.setCell ⟨g,0,none⟩ v0).setCell ⟨g,1,none⟩ v1).setCell ⟨g,2,none⟩ v2).setCell ⟨g,3,none⟩ v3).setCell ⟨g,4,none⟩ v4).setCell ⟨g,5,none⟩ v5).heap[g]? =some (.cells #[v0,v1,v2,v3,v4,v5,H J 0,F false] T (0,0)):=heap_setCell_same _ g 5 _ T v5 h4;have eW:(((((((w.setCell ⟨g,0,none⟩ v0).setCell ⟨g,1,none⟩ v1).setCell ⟨g,2,none⟩ v2).setCell ⟨g,3,none⟩ v3).setCell ⟨g,4,none⟩ v4).setCell ⟨g,5,none⟩ v5).setCell ⟨g,6,none⟩ v6).heap[g]? =some (.cells #[v0,v1,v2,v3,v4,v5,v6,F false] T (0,0)):=heap_setCell_same _ g 6 _ T v6 h5;have h7:((((((((w.setCell ⟨g,0,none⟩ v0).setCell ⟨g,1,none⟩ v1).setCell ⟨g,2,none⟩ v2).setCell ⟨g,3,none⟩ v3).setCell ⟨g,4,none⟩ v4).setCell ⟨g,5,none⟩ v5).setCell ⟨g,6,none⟩ v6).setCell ⟨g,7,none⟩ v7).heap[g]? =some (.cells #[v0,v1,v2,v3,v4,v5,v6,v7] T (0,0)):=heap_setCell_same _ g 7 _ T v7 eW;exact h7
theorem jv (w:World) (g:Nat) (v0 v1 v2 v3 v4 v5 v6 v7:Value):I [g] w (hE w g v0 v1 v2 v3 v4 v5 v6 v7):=
 (((((((((I.refl [g] w).setCell (.inl (by simp)) _).setCell (.inl (by simp)) _).setCell (.inl (by simp)) _).setCell (.inl (by simp)) _).setCell (.inl (by simp)) _).setCell (.inl (by simp)) _).setCell (.inl (by simp)) _).setCell (.inl (by simp)) _)
theorem ew {w:World} {g T:Nat} (h:w.heap[g]? =some (.cells #[H J 0,M none 0 0,M none 0 0,H J 0,H J 0,H J 0,H J 0,F false] T (0,0))):
  w.cell? ⟨g,0,none⟩=some (H J 0)∧w.cell? ⟨g,1,none⟩=some (M none 0 0)∧w.cell? ⟨g,2,none⟩=some (M none 0 0)∧w.cell? ⟨g,3,none⟩=some (H J 0)∧w.cell? ⟨g,4,none⟩=some (H J 0)∧w.cell? ⟨g,5,none⟩=some (H J 0)∧w.cell? ⟨g,6,none⟩=some (H J 0)∧w.cell? ⟨g,7,none⟩=some (F false)∧∀ o,w.frozen? ⟨g,o,none⟩=false:=by
 simp [World.cell?,World.frozen?,h]
theorem qb {P:Program} {fn:Func} {p ae:Tmp} {lT:TypeId} (h:fn.results=#[.cell p lT,.tmp ae]) (tmps:Array Value) (w:World) (g:Nat) (t:TypeId) (cs:Array Value) (zM:Nat × Nat) (d:TypeDesc)
  (hp:tmps.getD p undef=.pointer (some ⟨g,0,none⟩)) (hg:w.heap[g]? =some (.cells cs t zM))
  (cy:P.underlying lT=some d) (dB:(match d with | .struct _ | .array _ _=> true | _=> false)=true) (hi:(P.info? lT).map (·.size)=some cs.size):
  (results fn tmps).run P w=.ok (.tuple #[.agg cs,tmps.getD ae undef]) w:=by
 have Lo:tmps[p]?.getD undef=.pointer (some ⟨g,0,none⟩):=by simpa using hp
 simp [results,h,Lo,asAddr,run_loadVar_row w g t lT cs zM d hg cy dB hi]
def du (lo:Nat) (src l:List Nat):Prop:=∀ b∈l,b∈src∨lo≤b
theorem du.mono {lo CI:Nat} {src adC l:List Nat} (h:du lo src l) (hl:CI≤lo) (hs:∀ b∈src,b∈adC∨CI≤b):du CI adC l:=fun b ad=> by
 rcases h b ad with h | h
 ·exact hs b h
 ·exact .inr (Nat.le_trans hl h)
theorem du.append {lo:Nat} {src a b:List Nat} (h:du lo src a) (k:du lo src b):du lo src (a ++ b):=fun x hx=> by
 rcases List.mem_append.1 hx with hx | hx
 ·exact h x hx
 ·exact k x hx
theorem du.nil (lo:Nat) (src:List Nat):du lo src []:=fun _ h=> by simp at h
theorem du.refl (lo:Nat) (l:List Nat):du lo l l:=fun _ h=> .inl h
theorem du.rR {lo:Nat} {src l:List Nat} (h:∀ b∈l,b∈src):du lo src l:=fun b ad=> .inl (h b ad)
theorem mF {op sa sc set ka kc kids mn mx mode n neg} {k:MRe} (hk:k∈kids):∀ b∈k.aw,b∈(MRe.node op sa sc set ka kc kids mn mx mode n neg).aw:=fun b ad=> by
 simp only [MRe.aw,List.mem_append];exact .inr (.inr (MRe.mQ hk ad))
theorem rt {fn:Func} {R:Ending→World→Prop} {a:Act} {w:World} {p ae:Tmp} {g:Nat} {cs:Array Value} (hg:w.heap[g]? =some (.cells cs 26 (0,0))) (aY:R (.returned (.tuple #[.agg cs,a.tmps.getD ae undef])) w) (h:fn.results=#[.cell p 26,.tmp ae]:=by rfl) (hp:a.tmps.getD p undef=.pointer (some ⟨g,0,none⟩):=by rfl) (hi:8=cs.size:=by rfl) (dB:a.defers=[]:=by rfl):bodyPost Tryz.prog fn R .ret a w:=
 bodyPost_ret (qb h _ _ g 26 cs (0,0) _ hp hg Tryz.underlying26 rfl (by rw [mB,hi])) dB aY
theorem gR {w aE W:World} {U:Nat} (gA:U=w.heap.size) (mj:I [] w aE) (lF:I [] aE W) (aW:aE.heap[U + 1]? =some cO):
  W.cell? ⟨U + 1,0,none⟩=some (H J 0)∧W.cell? ⟨U + 1,1,none⟩=some (M none 0 0)∧W.cell? ⟨U + 1,2,none⟩=some (M none 0 0)∧W.cell? ⟨U + 1,3,none⟩=some (H J 0)∧W.cell? ⟨U + 1,4,none⟩=some (H J 0)∧W.cell? ⟨U + 1,5,none⟩=some (H J 0)∧W.cell? ⟨U + 1,6,none⟩=some (H J 0)∧W.cell? ⟨U + 1,7,none⟩=some (F false)∧(∀ o,W.frozen? ⟨U + 1,o,none⟩=false)∧sF ((hE W (U + 1) (H J 0) (M none 0 0) (M none 0 0) (H J 0) (H J 0) (H J 0) (H J 0) (F false)).heap[U + 1]? =some cO)∧sF (I [] w (hE W (U + 1) (H J 0) (M none 0 0) (M none 0 0) (H J 0) (H J 0) (H J 0) (H J 0) (F false))):=by
 obtain ⟨z0,z1,z2,z3,z4,z5,b9,cc,cj⟩:=ew (lF.h aW);exact ⟨z0,z1,z2,z3,z4,z5,b9,cc,cj,⟨rm (lF.h aW) (H J 0) (M none 0 0) (M none 0 0) (H J 0) (H J 0) (H J 0) (H J 0) (F false)⟩,⟨(mj.trans lF).cn (jv _ (U + 1) (H J 0) (M none 0 0) (M none 0 0) (H J 0) (H J 0) (H J 0) (H J 0) (F false)) (by intro x hx;simp at hx;subst hx;exact .inr (by omega))⟩⟩
theorem anr (n:Nat) (w:World) (i:TypeInfo) (hi:Tryz.prog.info? 26=some i) (dQ:i.zero=some (.agg #[H J 0,M none 0 0,M none 0 0,H J 0,H J 0,H J 0,H J 0,F false])) (fj:i.size=8) (eI:i.bytes=96) (h0:¬ n=0) (hn:n≤1000000) (lT:TypeId):
  (Builtin.append_ #[24,3] lT #[M none 0 0,H J n]).run Tryz.prog w=
   .ok (M (some ⟨w.heap.size,0,none⟩) n (grownCap w n 0 26)) (w.drew.alloc (.cells (Builtin.zeroCells #[H J 0,M none 0 0,M none 0 0,H J 0,H J 0,H J 0,H J 0,F false] n ++ Builtin.zeroCells #[H J 0,M none 0 0,M none 0 0,H J 0,H J 0,H J 0,H J 0,F false] (grownCap w n 0 26 - n)) 26)):=
 Lib.run_append_nil_zeros (P:=Tryz.prog) w 24 3 lT 26 i _ .i64 .i64 Tryz.underlying24 Tryz.underlying3 hi dQ n (by omega) (by omega) (by omega) (by rw [eI];omega)
theorem ajf (n:Nat) (w:World) (hn:n≤1000000):
  Calls Tryz.prog 148 #[M none 0 0,H J n] w fun e w'=> ∃ dZ c',e=.returned (de dZ 0 c')∧cr w' 26 8 dZ 0 c' []∧I [] w w'∧(∀ g,dZ=some g→w.heap.size≤g):=by
 by_cases h0:n=0
 ·subst h0;go_enter Tryz.func148,Tryz.ntmps148
  go_wp2;go_ret;exact ⟨none,0,rfl,cr.nil _ _ _,I.refl _ _,by simp⟩
 ·obtain ⟨gq,hi,dQ,fj,eI⟩:=info_parts Eb;have aO:=anr n w gq hi dQ fj eI h0 hn 24;have Bk:=grownCap_ge w n 0 26;have fc:=grownCap_le_maxLen w n 0 26 (by unfold maxLen;omega);have cZ:(Builtin.zeroCells #[H J 0,M none 0 0,M none 0 0,H J 0,H J 0,H J 0,H J 0,F false] n ++ Builtin.zeroCells #[H J 0,M none 0 0,M none 0 0,H J 0,H J 0,H J 0,H J 0,F false] (grownCap w n 0 26 - n)).size=grownCap w n 0 26 * 8:=by
   rw [Array.size_append,size_zeroCells,size_zeroCells,←Nat.add_mul]
   congr 1
   omega
  have akk:(0:Int) < n:=by omega
  obtain ⟨dJ,lB⟩:∃ dJ,dJ=grownCap w n 0 26:=⟨_,rfl⟩;rw [←lB] at aO Bk fc cZ;have aD:=C aO;have qk:=C Bk;have zY:¬ dJ=0:=by omega
  have km:dJ≤9223372036854775807:=by unfold maxLen at fc;omega
  clear hi dQ fj eI aO lB fc;have rz:=C km;go_enter Tryz.func148,Tryz.ntmps148
  go_wp2_with (at_builtin;refine Lib.wpList_append_run _ rfl _ _ _ _ rfl _ _ rfl rfl _ _ aD.o ?_)
  go_wp2;go_ret;exact ⟨some w.heap.size,dJ,rfl,⟨by simp,_,heap_alloc_new w _,by omega,by have:=rz.o;unfold maxLen;omega,cZ,by simp⟩,((I.refl [] w).alloc _).drew,by intro g hg;cases hg;exact Nat.le_refl _⟩
structure Part where
 ka:Option Addr
 kc:Nat
 kids:List MRe
def Part.val (p:Part):Value:=M p.ka p.kids.length p.kc
def tb (l:List Part):Nat:=(l.flatMap Part.kids).length
theorem adR (l:List Part) (k:Nat) (h:k < l.length):tb (l.take (k + 1))=tb (l.take k) + l[k].kids.length:=by
 unfold tb;rw [List.take_succ_eq_append_getElem h,List.flatMap_append,List.length_append]
 simp
theorem aox (l:List Part) (k:Nat):tb (l.take k)≤tb l:=by
 unfold tb;have h:=congrArg List.length (congrArg (List.flatMap Part.kids) (List.take_append_drop k l));rw [List.flatMap_append,List.length_append] at h;omega
theorem aiy (g:Nat) (parts:List Part) (w:World) (hg:∀ i (h:i < parts.length),w.cell? ⟨g,i,none⟩=some parts[i].val) (hk:∀ p∈parts,gT w p.ka p.kc p.kids) (ad:tb parts≤1000000) (hl:parts.length≤10):
  Calls Tryz.prog 141 #[M (some ⟨g,0,none⟩) parts.length parts.length] w fun e w'=> ∃ dZ c',e=.returned (de dZ (tb parts) c')∧gT w' (dZ.map fun g=> ⟨g,0,none⟩) c' (parts.flatMap Part.kids)∧I [] w w'∧(∀ g,dZ=some g→w.heap.size≤g):=by
 obtain ⟨gq,hi,dQ,fj,eI⟩:=info_parts Eb;have gH:=C hi;have gI:=C dQ;have gJ:=C fj;have gK:=C eI;have fe:=C hg;have b6:=C hk;have Wb:=C (adR parts);have Ha:=C (aox parts);clear hi dQ fj eI hg hk;obtain ⟨ahk,SA⟩:∃ t,t=tb parts:=⟨_,rfl⟩;rw [←SA] at ad ⊢;have MQ:=C SA;clear SA;go_enter Tryz.func141,Tryz.ntmps141
 go_wp2
 go_loop [3,11] (fun s i=> ∃ k n:Nat,k≤parts.length∧i=H J k∧s=H J n∧n=tb (parts.take k)) (fun _ i=> parts.length - (intOf i).toNat)
 case atStart=> exact ⟨0,0,Nat.zero_le _,rfl,rfl,rfl⟩
 case round=>
  obtain ⟨k,n,gC,rfl,rfl,hn⟩:=hrel;have dP:=C hn;clear hn
  by_cases aQ:k < parts.length
  ·have hc:=fe.o k aQ;have yR:=Wb.o k aQ;have rM:=Ha.o (k + 1);rw [←MQ.o] at rM;have fc:=(b6.o parts[k] (List.getElem_mem aQ)).ch.le;rw [←dP.o] at yR
   generalize parts[k]=p at *
   obtain ⟨ka,kc,kids⟩:=p;simp only [Part.val] at hc fc yR;have QH:=C yR;have iR:n + kids.length≤1000000:=by omega
   clear yR rM;go_wp2
   go_round
   case rel=> exact ⟨k + 1,n + kids.length,by omega,by go_num,by go_num,QH.o.symm⟩
   case measure=> simp [intOf];omega
  ·obtain rfl:k=parts.length:=by omega
   have kV:n=ahk:=by rw [dP.o,List.take_length,MQ.o]
   subst kV;have uD:=C (ajf n w ad);go_wp2_with fail
   refine Calls.mono uD.o ?_;rintro e w2 ⟨a2,c2,rfl,dd,hk2,m4⟩;have hU:=C dd;have bQ:=C hk2;have wy:=C m4;simp only [de];clear dd hk2 m4 uD Wb;go_wp2
   go_loopw [6,27] (fun v i wr=> ∃ (k:Nat) (dZ:Option Nat) (c':Nat),k≤parts.length∧i=H J k∧v=de dZ (tb (parts.take k)) c'∧cr wr 26 8 dZ (tb (parts.take k)) c' (fX ((parts.take k).flatMap Part.kids))∧I [] w wr∧(∀ g,dZ=some g→w.heap.size≤g)) (fun _ i _=> parts.length - (intOf i).toNat)
   case atStart=> exact ⟨0,a2,c2,Nat.zero_le _,rfl,rfl,hU.o,bQ.o,wy.o⟩
   case round=>
    obtain ⟨k,dZ,c',gC,rfl,rfl,dd,ck,b8⟩:=hrel;have cW:=C dd;have cX:=C ck;have kR:=C b8;clear dd b8 hU bQ wy
    by_cases aQ:k < parts.length
    ·have hc:=ck.cell (fe.o k aQ) (by simp);have yR:=adR parts k aQ;have rM:=Ha.o (k + 1);rw [←MQ.o] at rM;have hks:=(b6.o parts[k] (List.getElem_mem aQ)).ah ck;have xM:(parts.take (k + 1)).flatMap Part.kids=(parts.take k).flatMap Part.kids ++ parts[k].kids:=by
      rw [List.take_succ_eq_append_getElem aQ,List.flatMap_append];simp
     generalize parts[k]=p at *
     obtain ⟨ka,kc,kids⟩:=p;simp only [Part.val] at hc yR hks xM;have fc:=hks.ch.le;obtain ⟨m,hm⟩:∃ m,m=tb (parts.take k):=⟨_,rfl⟩;rw [←hm] at yR cW ⊢;have fZ:=C hks;have VD:=C xM;have HM:=C hm;have tf:=C yR;have iR:m + kids.length≤1000000:=by omega
     clear yR rM hks xM ck hm;simp only [de]
     go_wp2_with (at_builtin;refine tF rfl (.tmp 31) (.tmp 32) 24 rfl 26 gq _ 8 96 Tryz.underlying24 gH.o gI.o gJ.o gK.o rfl (by decide) dZ m c' _ rfl cW.o ka kids.length kc (fX kids) rfl (Cg kids) fZ.o.ch.src (wT kids) (by omega) (by omega) ?hk)
     case hk=>
      intro a3 an w3 qF aP zT;have qo:=C qF;have iX:=C (show I [] w w3 from cX.o.cn aP (by intro x hx;simp at hx;exact .inr (kR.o x hx)));have I0:=C (show ∀ g,a3=some g→w.heap.size≤g by
       intro g hg
       rcases zT with h | ⟨hv,h,h2⟩
       ·exact kR.o g (by rw [←h,hg])
       ·rw [hg] at h;cases h;have:=cX.o.size;omega)
      clear qF aP zT;go_wp2;go_roundw
      case rel=> exact ⟨k + 1,a3,an,by omega,by go_num,by rw [tf.o];rfl,by rw [tf.o,VD.o,Cf];exact qo.o,iX.o,I0.o⟩
      case measure=> simp [intOf];omega
    ·obtain rfl:k=parts.length:=by omega
     have kV:tb (parts.take parts.length)=n:=by rw [List.take_length,MQ.o]
     rw [kV,List.take_length] at cW;rw [kV];simp only [de];clear ck kV;go_wp2;go_ret;exact ⟨dZ,c',rfl,⟨hH.we cW.o,fun x hx=> by
      obtain ⟨p,hp,hx⟩:=List.mem_flatMap.1 hx;exact (((b6.o p hp).ah cX.o).all x hx)⟩,cX.o,kR.o⟩
def im (op:Int):List Tree→Tree
 | [x]=> x
 | l=> .node op [] l 0 0 0 0 false
theorem Ir (op:Int) (ka:Option Addr) (kc:Nat) (kids:List MRe) (w:World) (hk:gT w ka kc kids):
  Calls Tryz.prog 121 #[H J op,M ka kids.length kc] w fun e w'=> ∃ m:MRe,e=.returned m.val∧m.ab=im op (MRe.al kids)∧m.aK w'∧I [] w w'∧∀ b∈m.aw,b∈df kids.length ka ++ MRe.dN kids:=by
 have b6:=C hk;clear hk
 by_cases h1:kids.length=1
 ·obtain ⟨b,off,rfl,ad,hx⟩:=b6.o.ch.dy (by omega);have eD:=hx 0 (by omega);have cm:=b6.o.all kids[0] (List.getElem_mem (by omega));have qB:∀ ae∈kids[0].aw,ae∈df kids.length (some ⟨b,off,none⟩) ++ MRe.dN kids:=fun x hx=> List.mem_append_right _ (MRe.mQ (List.getElem_mem _) hx);have I4:=C qB;clear qB;have sn:im op (MRe.al kids)=kids[0].ab:=by
   match kids,h1 with
   | [x],_=> rfl
  have tQ:=C sn;have jq:=C cm
  generalize kids[0]=m at *
  obtain ⟨bW,cQ⟩:∃ bW,bW=m:=⟨_,rfl⟩;rw [←cQ] at tQ jq I4;have HM:=C cQ;clear cQ;obtain ⟨op1,aM,aN,set1,aS,kc1,aq,mn1,aI,mode1,n1,aL⟩:=m;have g:=eD.node;rw [Nat.zero_mul,Nat.add_zero] at g;obtain ⟨ar,c1,c2,an,av,ay,ax,az⟩:=id g;clear g eD sn cm hx;have jC:(kids.length:Int)=1:=by omega
  go_enter Tryz.func121,Tryz.ntmps121
  go_upto_region 2 with fail
  go_wp2_with (refine wpList_store_row rfl 26 (.tmp 4) (.tmp 10) rfl w.heap.size #[H J op1,M aM set1.length aN,M aS aq.length kc1,H J mn1,H J aI,H J mode1,H J n1,F aL] rfl rfl 26 #[H J 0,M none 0 0,M none 0 0,H J 0,H J 0,H J 0,H J 0,F false] (heap_alloc_new w _) mB rfl (Pf _ _ _ _ _ _ _ _ _ _ _ _) ?_)
  have aY:=setRow_heap (w.alloc cO) w.heap.size _ #[H J op1,M aM set1.length aN,M aS aq.length kc1,H J mn1,H J aI,H J mode1,H J n1,F aL] 26 (0,0) (heap_alloc_new w _);refine mA aY ?_;have kk:I [] w ((w.alloc cO).setRow w.heap.size #[H J op1,M aM set1.length aN,M aS aq.length kc1,H J mn1,H J aI,H J mode1,H J n1,F aL]):=((I.refl [] w).alloc _).setRow (.inr (Nat.le_refl _)) _;refine ⟨bW,by rw [HM.o];rfl,by rw [tQ.o],jq.o.ah kk,kk,I4.o⟩
 ·have sn:im op (MRe.al kids)=.node op [] (MRe.al kids) 0 0 0 0 false:=by
   match kids,h1 with
   | [],_=> rfl
   | x::y::r,_=> rfl
  have tQ:=C sn;clear sn;have hcap:=b6.o.ch.cap;have fc:=b6.o.ch.le;unfold maxLen at hcap;go_enter Tryz.func121,Tryz.ntmps121
  go_wp2;refine bodyPost_ret (results_cell_row rfl _ _ w.heap.size 26 #[H J op,M none 0 0,M ka kids.length kc,H J 0,H J 0,H J 0,H J 0,F false] (0,0) _ rfl (heap_alloc_new w _) Tryz.underlying26 rfl mB) rfl ?_;exact ⟨.node op none 0 [] ka kc kids 0 0 0 0 false,rfl,by rw [tQ.o];rfl,.hR (eK.nil _) (b6.o.ah (I.a1 _ _)),I.a1 _ _,fun b ad=> by simpa [MRe.aw,RA] using ad⟩
def hF (op:Int) (kids:List Tree) (i j:Nat) (l:List Tree):Tree:=im op (kids.take i ++ (l ++ kids.drop j))
end Go.Proofs.YtjnlkjlbejelgaaGreat
