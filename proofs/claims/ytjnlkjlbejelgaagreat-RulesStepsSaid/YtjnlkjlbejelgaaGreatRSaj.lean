/- Part of the proof. No condition: every lemma says its own. -/
import Derived.Test.YtjnlkjlbejelgaaGreatRSai
namespace Go.Proofs.YtjnlkjlbejelgaaGreat
open Go.RowKit
open Go.Value renaming int→H,slice→M,bool→F
open Go.IntKind renaming i64→J
set_option maxRecDepth 100000
set_option maxHeartbeats 16000000
theorem ac5 (m:MRe) (cp:Int) (ru:Bool) (w:World) (aj:m.aK w) (ad:m.ab.bm≤1000000):
  Calls Tryz.prog 25 #[fV m cp ru] w (Q5 w m.ab cp ru):=by
 obtain ⟨gq,hi,dQ,fj,eI⟩:=info_parts OC;have gH:=C hi;have gI:=C dQ;have gJ:=C fj;have gK:=C eI;clear hi dQ fj eI;obtain ⟨U,cd⟩:∃ U,U=w.heap.size:=⟨_,rfl⟩;obtain ⟨aE,cz⟩:∃ aE,aE=w.alloc (.cells (m.row ++ [H J cp,Value.bool ru]).toArray 28):=⟨_,rfl⟩;have cq:I [] w aE:=by rw [cz];exact I.a1 _ _
 have gg:aE.heap[U]? =some (.cells (m.row ++ [H J cp,Value.bool ru]).toArray 28 (0,0)):=by rw [cz,cd];exact heap_alloc_new w _
 have en:=C (Mb m cp ru aE (aj.ah cq) ad);obtain ⟨T,hT⟩:∃ T,T=m.ab:=⟨_,rfl⟩;unfold Q5;have ly:=C (fun (W:World) (h:I [] aE W)=> (hT ▸ UN m W ((aj.ah cq).ah h) ad:Calls Tryz.prog 9 #[m.val] W (Dk W T)));have gP:=C (fun (W:World) (h:I [] aE W) (r:Int) (path:List Int) (bP:Option Addr) (pc:Nat) (hin:hr W bP path) (hc:path.length≤pc) (hl:path.length≤1000000)=> Pa m cp ru r path bP pc W ((aj.ah cq).ah h) hin hc hl ad);rw [←hT] at en gP ⊢;obtain ⟨ve,hve⟩:∃ v,v=gZ T cp ru:=⟨_,rfl⟩;rw [←hve] at en ⊢;have yw:=C hve;have aB:=C cd;have aH:=C cq;obtain ⟨uJ,wV⟩:∃ l,l=m.aw:=⟨_,rfl⟩;rw [←wV] at gP;have G9:=C (show T.bm≤1000000 by rw [hT];exact ad);obtain ⟨op1,aM,aN,set1,aS,kc1,aq,mn1,aI,mode1,n1,aL⟩:=m;have c7:=C (show aE=w.alloc (.cells #[H J op1,M aM set1.length aN,M aS aq.length kc1,H J mn1,H J aI,H J mode1,H J n1,F aL,H J cp,F ru] 28) from cz);simp only [MRe.val,fV,MRe.row,List.cons_append,List.nil_append,CV] at en ly gP;obtain ⟨ar,c1,c2,an,av,ay,ax,az,au,dg,fh⟩:=fR (show aE.heap[U]? =some (.cells #[H J op1,M aM set1.length aN,M aS aq.length kc1,H J mn1,H J aI,H J mode1,H J n1,F aL,H J cp,F ru] 28 (0,0)) from gg)
 show Calls Tryz.prog 25 #[.agg #[H J op1,M aM set1.length aN,M aS aq.length kc1,H J mn1,H J aI,H J mode1,H J n1,F aL,H J cp,F ru]] w _
 clear cd cz cq gg aj fh hT ad wV hve;go_enter Tryz.func25,Tryz.ntmps25
 go_upto_region 1 with fail
 rw [←c7.o,←aB.o];go_wp2_with fail
 refine Calls.mono en.o ?_;rintro e w2 ⟨rfl,hk2⟩;have aU:=C hk2;have dx:=hk2.au ar c1 c2 an av ay ax az;clear ar c1 c2 an av ay ax az;obtain ⟨ar,c1,c2,an,av,ay,ax,az⟩:=dx;replace au:=hk2.c au;replace dg:=hk2.c dg;clear hk2 en
 by_cases da:ve=0
 rotate_left
 ·have Bt:(ve !=0)=true:=by simpa using da
  have b6:=C (aH.o.trans aU.o);clear ar c1 c2 an av ay ax az au dg;go_wp2
  go_ret2
  exact ⟨none,0,[],rfl,⟨cr.nil _ _ _,by simp⟩,b6.o,by simp,by simp,by simp,by simp⟩
 subst da;have qq:=C yw.o.symm;go_wp2_with fail
 refine Calls.mono (ly.o _ aU.o) ?_;rintro e w4 ⟨R7,amo,nt,rfl,hpn,qE,bc,Ab,Ak⟩;have mM:nt.length=(ia T).length:=by rw [←hpn,List.length_map]
 have cl:=C (aU.o.trans bc);have A1:=C hpn;have nm:=C qE;have dx:=bc.au ar c1 c2 an av ay ax az;clear ar c1 c2 an av ay ax az;obtain ⟨ar,c1,c2,an,av,ay,ax,az⟩:=dx;replace au:=bc.c au;replace dg:=bc.c dg;have hI:=C (show nt.length≤1000000 by have:=(x5 T).1;have:=(AJ T).1;have:=G9.o;omega);have BT:=C (show ∀ r∈nt,r.path.length≤1000000 from fun r aO=> by
  have h1:r.path∈ia T:=by rw [←hpn];exact List.mem_map_of_mem aO
  have:=(x5 T).2 _ h1
  have:=G9.o
  omega)
 rw [←mM];have Qv:=C (show ∀ r∈nt,∀ aX,r.bP=some aX→w.heap.size≤aX.block from fun r aO aX dC=> by have:=Ak r aO aX dC;have:=aU.o.size;have:=aH.o.size;omega);clear bc hpn qE Ab Ak mM ly aU;go_wp2
 go_loopw [5,7,8,9,10,11] (fun v i _ _ _ _ wr=> ∃ (k:Nat) (a:Option Nat) (c:Nat) (rows:List ei),k≤nt.length∧i=H J k∧v=de a rows.length c∧wK wr 52 w4.heap.size a c rows∧I [] w4 wr∧rows.map ei.s=((ia T).take k).flatMap (fun p=> j1 T cp ru p 17)∧rows.length≤17 * k∧∀ r∈rows,r.path.length≤r.pc∧∀ aX,r.bP=some aX→w.heap.size≤aX.block) (fun _ i _ _ _ _ _=> nt.length - (intOf i).toNat)
 case atStart=> exact ⟨0,none,0,[],Nat.zero_le _,rfl,rfl,⟨⟨cr.nil _ _ _,by simp⟩,by simp,by simp⟩,I.refl _ _,rfl,by simp,by simp⟩
 case round=>
  obtain ⟨lK,yS⟩:∃ lK,lK=wr:=⟨_,rfl⟩;subst yS;obtain ⟨k,a,c,rows,hk,rfl,rfl,eE,pv,p5,kI,hQ⟩:=hrel;have fq:=C eE;have kl:=C pv;have ga:=C p5;have oM:=C kI;have mY:=C hQ;clear eE pv p5 kI hQ
  by_cases aQ:k < nt.length
  ·have d1:=nm.o.cell k aQ;obtain ⟨px,uZ,xW⟩:=nm.o.kz nt[k] (List.getElem_mem aQ);have rz:=C (BT.o nt[k] (List.getElem_mem aQ));have Tw:=Qv.o nt[k] (List.getElem_mem aQ);have i5:k < (ia T).length:=by rw [←A1.o,List.length_map];exact aQ
   have fB:(ia T)[k]=nt[k].path:=by simp only [←A1.o,List.getElem_map]
   have tf:=C (show ((ia T).take (k + 1)).flatMap (fun p=> j1 T cp ru p 17)=((ia T).take k).flatMap (fun p=> j1 T cp ru p 17) ++ j1 T cp ru nt[k].path 17 by
    rw [List.take_succ_eq_append_getElem i5,List.flatMap_append,fB];simp)
   generalize nt[k]=pr at *
   obtain ⟨bP,pc,path⟩:=pr;simp only at d1 px uZ xW rz Tw;have afv:=C Tw;have tf:=C (show ((ia T).take (k + 1)).flatMap (fun p=> j1 T cp ru p 17)=((ia T).take k).flatMap (fun p=> j1 T cp ru p 17) ++ j1 T cp ru path 17 from tf.o);have rA:=C px;have EW:=C uZ;have Da:=C xW;have Vy:=C d1;have bI:=C (And.intro ar (And.intro c1 (And.intro c2 (And.intro an (And.intro av (And.intro ay (And.intro ax (And.intro az (And.intro au dg)))))))));clear i5 fB px uZ xW Tw d1 ar c1 c2 an av ay ax az au dg;go_wp2
   go_loopw [5,8,9,10,11] (fun v j _ _ _ BB=> ∃ (r:Nat) (a:Option Nat) (c:Nat) (rows:List ei),r≤17∧j=H J r∧v=de a rows.length c∧wK BB 52 w4.heap.size a c rows∧I [] w4 BB∧rows.map ei.s=((ia T).take k).flatMap (fun p=> j1 T cp ru p 17) ++ j1 T cp ru path r∧rows.length≤17 * k + r∧∀ r∈rows,r.path.length≤r.pc∧∀ aX,r.bP=some aX→w.heap.size≤aX.block) (fun _ j _ _ _ _=> 17 - (intOf j).toNat)
   case atStart=> exact ⟨0,a,c,rows,by omega,rfl,rfl,fq.o,kl.o,by rw [ga.o];simp [j1],by have:=oM.o;omega,mY.o⟩
   case round=>
    obtain ⟨r,a,c,rows,aO,rfl,rfl,eE,jI,p5,kI,hQ⟩:=hrel;have fq:=C eE;have c4:=C jI;have Dc:=C p5;have oM:=C kI;have mY:=C hQ;clear eE jI p5 kI hQ
    by_cases mh:r < 17
    ·have cm:=aob qq.o mh path;have tP:=C (show j1 T cp ru path (r + 1)=j1 T cp ru path r ++ if CL T cp ru path r then [((r:Int),path)] else [] from rfl);rw [←cm] at tP;have sW:=gP.o;obtain ⟨mu,hPE⟩:∃ mu,mu=(j9 T cp ru r path).1:=⟨_,rfl⟩;rw [←hPE] at tP;have mD:=C (fun (W:World) (h:I [] wr W)=> (hPE ▸ gP.o W ((cl.o.trans c4.o).trans h) r path bP pc ((rA.o.bG c4.o (fun _ _=> by simp)).bG h (fun _ _=> by simp)) EW.o rz.o:Calls Tryz.prog 29 #[.agg #[H J op1,M aM set1.length aN,M aS aq.length kc1,H J mn1,H J aI,H J mode1,H J n1,F aL,H J cp,F ru],.agg #[H J r,M bP path.length pc]] W (r6 W uJ cp ru (H J mu) (j9 T cp ru r path).2)));obtain ⟨kU,sS⟩:∃ kU,kU=(j9 T cp ru r path).2:=⟨_,rfl⟩;rw [←sS] at mD;have d1:=c4.o.c Vy.o;have px:(r:Int) < 17:=by omega
     have uY:(0:Int)≤(r:Int):=by omega
     have je:(0:Int)≤(k:Int):=by omega
     have hk1:(k:Int) < (nt.length:Int):=by omega
     clear cm sW hPE sS;go_upto_region 13 with fail
     obtain ⟨fO,lh⟩:∃ fO,fO=wr.alloc (.cells #[H J r,M bP path.length pc] 52):=⟨_,rfl⟩;obtain ⟨qh,sj⟩:∃ aG,aG=wr.heap.size:=⟨_,rfl⟩;have lD:I [] wr fO:=by rw [lh];exact I.a1 _ _
     have nN:fO.heap[qh]? =some (.cells #[H J r,M bP path.length pc] 52 (0,0)):=by rw [lh,sj];exact heap_alloc_new wr _
     rw [←lh,←sj];have k3:=C lD;have c0:fO.cell? ⟨qh,0,none⟩=some (H J r):=by simp [World.cell?,nN]
     have cT:fO.cell? ⟨qh,1,none⟩=some (M bP path.length pc):=by simp [World.cell?,nN]
     obtain ⟨ar,c1,c2,an,av,ay,ax,az,au,dg⟩:=bI.o;have Gc:=c4.o.trans lD;have dx:=Gc.au ar c1 c2 an av ay ax az;clear ar c1 c2 an av ay ax az;obtain ⟨ar,c1,c2,an,av,ay,ax,az⟩:=dx;replace au:=Gc.c au;replace dg:=Gc.c dg;clear lh sj lD nN d1 Gc;go_wp2_with fail
     refine Calls.mono (mD.o _ k3.o) ?_;rintro e gW ⟨pa,Hv,IB,rfl,a7,iA,iF,aT,gX,hqf⟩;clear a7 iA iF aT hqf ar c1 c2 an av ay ax az au dg;have eV:=C (k3.o.trans gX);replace c0:=gX.c c0;replace cT:=gX.c cT;obtain ⟨qQ,qR,qS,hE,qH,qI,qJ,qK,qM,qL,o8,qN⟩:=pa;simp only [fV,MRe.row,List.cons_append,List.nil_append];clear gX mD;go_upto_region 14 with fail
     obtain ⟨aA,c5⟩:∃ aA,aA=gW.alloc (.cells #[H J qQ,M qR hE.length qS,M qH qJ.length qI,H J qK,H J qM,H J qL,H J o8,F qN,H J Hv,F IB] 28):=⟨_,rfl⟩;have eZ:I [] gW aA:=by rw [c5];exact I.a1 _ _
     rw [←c5];have aZ:=C (eV.o.trans eZ);have Dq:=C (c4.o.trans aZ.o);have xx:=C (fq.o.ah aZ.o);replace c0:=eZ.c c0;replace cT:=eZ.c cT;clear c5 eZ eV fq
     by_cases hpe:mu=0
     ·subst hpe;have k8:=C (show ∀ x:ei,x.s=((r:Int),path)→(rows ++ [x]).map ei.s=((ia T).take k).flatMap (fun p=> j1 T cp ru p 17) ++ j1 T cp ru path (r + 1) from fun x hx=> by rw [List.map_append,tP.o,Dc.o];simp [hx]);have uZ:=oM.o;have Ty:=hI.o
      go_wp2_with (at_builtin;refine yb rfl (.tmp 44) (.tmp 46) 43 rfl 52 gq _ 2 32 Tryz.underlying43 gH.o gI.o gJ.o gK.o rfl (by decide) a rows.length c _ rfl (xx.o.1.iJ.alloc _) ⟨aA.heap.size,0,none⟩ 1 1 [H J r,M bP path.length pc] rfl rfl (x4 _ _ _ _ rfl) ?hone (by decide) (by omega) (by omega) ?hk)
      case hone=> intro u cy;simp at cy;rcases cy with rfl | rfl <;> rfl
      case hk=>
       intro g3 an eB vZ ie nN;have aqa:=Dq.o.size;have hga:∀ aX,bP=some aX→aX.block < w4.heap.size:=fun aX dC=> (Da.o aX dC).1;have uX:=(xx.o.ah (I.a1 aA (.cells #[H J r,M bP path.length pc] 52))).push (r:=⟨r,bP,path,pc⟩) (by simp;omega) ie (by simpa using nN) vZ (by
        refine ((rA.o.bG Dq.o (fun _ _=> by simp)).bG (I.a1 aA _) (fun _ _=> by simp)).bG ie (fun aX dC hm=> ?_);have h1:=hga aX dC;have h2:=xx.o.2.1 aX.block (by simpa using hm)
        omega) (fun aX dC=> ⟨by have:=hga aX dC;simp;omega,fun h=> by
        have h1:=hga aX dC;have h4:=xx.o.2.1 aX.block h.symm
        omega⟩)
       have mX:=C uX;have BK:=C (show I [] w4 eB from (Dq.o.trans (I.a1 aA _)).cn ie (fun x hx=> .inr (xx.o.2.1 x (by simpa using hx))));have yt:=C (show ∀ x∈rows ++ [(⟨r,bP,path,pc⟩:ei)],x.path.length≤x.pc∧∀ aX,x.bP=some aX→w.heap.size≤aX.block from fun x hx=> by
        rcases List.mem_append.1 hx with hx | hx
        ·exact mY.o x hx
        ·simp at hx;subst hx;exact ⟨EW.o,afv.o⟩)
       clear vZ ie nN uX c0 cT;go_wp2;go_roundw
       case rel=> exact ⟨r + 1,some g3,an,_,by omega,by go_num,by rw [List.length_append];rfl,mX.o,BK.o,k8.o _ rfl,by simp;omega,yt.o⟩
       case measure=> simp [intOf];omega
     ·have FT:(mu==0)=false:=by simpa using hpe
      have k8:=C (show rows.map ei.s=((ia T).take k).flatMap (fun p=> j1 T cp ru p 17) ++ j1 T cp ru path (r + 1) by rw [tP.o,Dc.o,FT];simp);clear hpe c0 cT;go_wp2;go_roundw
      case rel=> exact ⟨r + 1,a,c,rows,by omega,by go_num,rfl,xx.o,Dq.o,k8.o,by have:=oM.o;omega,mY.o⟩
      case measure=> simp [intOf];omega
    ·obtain rfl:r=17:=by omega
     have k8:=C (show rows.map ei.s=((ia T).take (k + 1)).flatMap (fun p=> j1 T cp ru p 17) by rw [tf.o,Dc.o]);have Ty:=hI.o;go_wp2;go_roundw
     case rel=> exact ⟨k + 1,a,c,rows,by omega,by go_num,rfl,fq.o,c4.o,k8.o,by have:=oM.o;omega,mY.o⟩
     case measure=> simp [intOf];omega
  ·obtain rfl:k=nt.length:=by omega
   have py:rows.map ei.s=ug T cp ru:=by rw [ga.o,ug,show nt.length=(ia T).length by rw [←A1.o,List.length_map],List.take_length]
   have jr:=C py;have gC:=(aH.o.trans cl.o);have AY:=C gC;clear py gC;go_wp2
   go_ret2
   exact ⟨a,c,rows,rfl,fq.o.1,AY.o.trans kl.o,by simpa using jr.o,mY.o,fun g hg=> Nat.le_trans AY.o.size (fq.o.2.1 g hg),fq.o.2.2⟩
theorem UX {t:Tree} {cp:Int} {ru:Bool} {r:Int} {p:List Int} {jl:Tree} (h:(j9 t cp ru r p).2=some jl):gZ jl cp ru=0:=by
 unfold j9 at h
 split at h
 ·split at h
  ·cases b8:jW t p with
   | none=> rw [b8] at h;simp [zh] at h
   | some x=>
    rw [b8] at h;simp only [zh] at h
    cases hy:rV r.toNat x with
    | none=> rw [hy] at h;simp [x9] at h
    | some y=>
     rw [hy] at h;simp only [x9] at h
     split at h
     ·simp only [sr] at h
      cases hp:lI t p y with
      | none=> rw [hp] at h;simp at h
      | some z=>
       rw [hp] at h;simp only at h
       split at h
       ·rename_i da;cases h;exact da
       ·cases h
     ·cases h
  ·cases h
 ·cases h
theorem wK.bG {S:List Nat} {W wO:World} {e lo:Nat} {a:Option Nat} {c:Nat} {rows:List ei} (h:wK W e lo a c rows) (k:I S W wO) (b8:∀ g,a=some g→g ∉ S) (aO:∀ r∈rows,∀ aX,r.bP=some aX→aX.block ∉ S):wK wO e lo a c rows:=
 ⟨⟨h.1.iJ.ah k b8,fun r hm=> (h.1.kz r hm).bG k (fun aX dC=> aO r hm aX dC)⟩,h.2.1,fun r hm aX dC=> ⟨Nat.lt_of_lt_of_le (h.2.2 r hm aX dC).1 k.size,(h.2.2 r hm aX dC).2⟩⟩
theorem UD (m1 m2:MRe) (cp:Int) (ru:Bool) (w:World) (aj:m1.aK w) (cV:m2.aK w) (ht:m1.ab=m2.ab) (ad:m2.ab.bm≤100000):
  Calls Tryz.prog 21 #[fV m1 cp ru,fV m2 cp ru] w fun e w'=> e=.returned (F true)∧I [] w w':=by
 obtain ⟨U,cd⟩:∃ U,U=w.heap.size:=⟨_,rfl⟩;obtain ⟨aE,cz⟩:∃ aE,aE=(w.alloc (.cells (m1.row ++ [H J cp,Value.bool ru]).toArray 28)).alloc (.cells (m2.row ++ [H J cp,Value.bool ru]).toArray 28):=⟨_,rfl⟩;have cq:I [] w aE:=by rw [cz];exact I.a2 _ _ _
 have gg:aE.heap[U]? =some (.cells (m1.row ++ [H J cp,Value.bool ru]).toArray 28 (0,0)):=by rw [cz,cd];exact (I.a1 _ _).heap (heap_alloc_new w _) (by simp)
 have iR:aE.heap[U + 1]? =some (.cells (m2.row ++ [H J cp,Value.bool ru]).toArray 28 (0,0)):=by rw [cz,cd];exact heap_alloc2_new w _ _
 have bI:=Md m1 m2 m2.ab aE (aj.ah cq) (cV.ah cq) ht rfl ad;have aB:=C cd;have aH:=C cq;obtain ⟨op1,aM,aN,set1,aS,kc1,aq,mn1,aI,mode1,n1,aL⟩:=m1;obtain ⟨op2,cg,cf,bj,ct,kc2,a8,mn2,bY,bX,bn,bZ⟩:=m2;have c7:=C (show aE=(w.alloc (.cells #[H J op1,M aM set1.length aN,M aS aq.length kc1,H J mn1,H J aI,H J mode1,H J n1,F aL,H J cp,F ru] 28)).alloc (.cells #[H J op2,M cg bj.length cf,M ct a8.length kc2,H J mn2,H J bY,H J bX,H J bn,F bZ,H J cp,F ru] 28) from cz);simp only [MRe.val] at bI;have bI:=C bI;obtain ⟨ar,c1,c2,an,av,ay,ax,az,au,dg,fh⟩:=fR (show aE.heap[U]? =some (.cells #[H J op1,M aM set1.length aN,M aS aq.length kc1,H J mn1,H J aI,H J mode1,H J n1,F aL,H J cp,F ru] 28 (0,0)) from gg);obtain ⟨bK,d1,d2,bL,bO,bT,bU,bV,Be,Cd,Ce⟩:=fR (show aE.heap[U + 1]? =some (.cells #[H J op2,M cg bj.length cf,M ct a8.length kc2,H J mn2,H J bY,H J bX,H J bn,F bZ,H J cp,F ru] 28 (0,0)) from iR)
 show Calls Tryz.prog 21 #[.agg #[H J op1,M aM set1.length aN,M aS aq.length kc1,H J mn1,H J aI,H J mode1,H J n1,F aL,H J cp,F ru],.agg #[H J op2,M cg bj.length cf,M ct a8.length kc2,H J mn2,H J bY,H J bX,H J bn,F bZ,H J cp,F ru]] w _
 clear cd cz cq gg iR aj cV ht ad fh Ce;go_enter Tryz.func21,Tryz.ntmps21
 go_upto_region 1 with fail
 rw [←c7.o,←aB.o];go_wp2_with fail
 refine Calls.mono bI.o ?_;rintro e w2 ⟨rfl,hk2⟩;have aU:=C hk2;clear hk2 bI ar c1 c2 an av ay ax az au dg bK d1 d2 bL bO bT bU bV Be Cd;go_wp2;go_ret;exact ⟨rfl,aH.o.trans aU.o⟩
end Go.Proofs.YtjnlkjlbejelgaaGreat
