/- Part of the proof. No condition: every lemma says its own. -/
import Derived.Test.YtjnlkjlbejelgaaGreatRSaf
namespace Go.Proofs.YtjnlkjlbejelgaaGreat
open Go.RowKit
open Go.Value renaming int→H,slice→M,bool→F
open Go.IntKind renaming i64→J
set_option maxRecDepth 100000
set_option maxHeartbeats 16000000
theorem amM (m:MRe) (w:World) (aj:m.aK w) (aJ:m.ab.dE) (ad:m.ab.bm≤100000):
  Calls Tryz.prog 12 #[H J 12,m.val] w (dc w m.aw (p0 m.ab)):=by
 obtain ⟨R,aC⟩:∃ R,R=p0 m.ab:=⟨_,rfl⟩;rw [←aC];have lB:=fun (W:World) (h:I [] w W) (ds:m.ab.op=2)=> am9 m W (aj.ah h) aJ ds ad;have aak:m.ab.op=2→p0 m.ab=R:=fun _=> aC.symm;have hoN:m.ab.op≠2→R=none:=fun h=> by rw [aC];cases hm:m.ab with | node op set kids mn mx mode n neg=> (rw [hm] at h;rw [p0,if_neg (show ¬ op=2 from h)])
 simp only [←aC] at lB;have eU:=C aj.fi;have mL:m.ab.op=(match m with | .node op _ _ _ _ _ _ _ _ _ _ _=> op):=by cases m;rfl
 obtain ⟨op,sa,sc,set,ka,kc,kids,mn,mx,mode,n,neg⟩:=m;replace mL:(MRe.ab (.node op sa sc set ka kc kids mn mx mode n neg)).op=op:=rfl;rw [mL] at hoN;obtain ⟨U,cd⟩:∃ U,U=w.heap.size:=⟨_,rfl⟩;obtain ⟨aE,cz,iy,aW,j8,cZ,cq⟩:=Bb w (.node op sa sc set ka kc kids mn mx mode n neg) 26;simp only [MRe.row] at cz;rw [←cd] at iy aW j8 cZ;have aB:=C cd;have c7:=C cz;have bI:=C iy;have ba:=C aW;have lA:=C j8;have aH:=C cq;have hC:=C cZ;simp only [MRe.val] at lB ⊢
 by_cases ds:op=2
 ·have ff:=C (fun (W:World) (h:I [] w W)=> lB W h ds);obtain ⟨ou,kF⟩:∃ ou,ou=R:=⟨_,rfl⟩;rw [←kF];have gN:=C kF;clear aC kF lB hoN aak cd cz iy aW j8 cZ cq aj aJ ad mL;subst ds;obtain ⟨ar,c1,c2,an,av,ay,ax,az⟩:=bI.o.ez;go_enter Tryz.func12,Tryz.ntmps12
  go_upto_region 2 with fail
  rw [←c7.o,←aB.o];go_wp2_with fail
  refine Calls.mono (ff.o _ aH.o) ?_;intro e w2 jX
  cases R with
  | none=>
   obtain ⟨rfl,hk2⟩:=jX;have aU:=C hk2;have aD:=C (show ou=none from gN.o);clear hk2 ar c1 c2 an av ay ax az;obtain ⟨z0,z1,z2,z3,z4,z5,b9,cc,cj,cw,bQ⟩:=gR aB.o aH.o aU.o ba.o;go_wp2;refine rt cw.o ?_;exact dc.dL aD.o rfl bQ.o
  | some t=>
   obtain ⟨ae,rfl,a7,aT,cU,hqf⟩:=jX;have gu:=C cU;have dK:=C a7;have dA:=C aT;have et:=C (vp (lo:=U + 2) (add:=[]) (by rw [List.append_nil];exact hqf) (fun _ h=> by simp at h) hC.o);obtain ⟨q0,bN⟩:∃ q0,q0=ae:=⟨_,rfl⟩;rw [←bN] at dK dA et;have dt:=C bN;clear a7 aT cU hqf bN ar c1 c2 an av ay ax az;obtain ⟨bA,bB,bC,bD,bs,bt,bu,bo,bx,bw,bp,bz⟩:=ae;simp only [MRe.val];obtain ⟨z0,z1,z2,z3,z4,z5,b9,cc,cj⟩:=ew (gu.o.h ba.o);go_wp2;have hfr:=et.o;rw [dt.o] at hfr;obtain ⟨aY,cm,fy,gB⟩:=nd aB.o aH.o gu.o ba.o (by rw [←dt.o];exact dA.o) hfr eU.o;refine rt aY ?_;exact dc.iI (.node bA bB bC bD bs bt bu bo bx bw bp bz) (by rw [gN.o,←dt.o,dK.o]) rfl cm fy gB
 ·have aD:=C (hoN ds);have Cx:(op==2)=false:=by simpa using ds
  have hj:=C (I.refl [] aE);clear aC lB hoN aak cd cz iy aW j8 cZ cq aj aJ ad mL;obtain ⟨ar,c1,c2,an,av,ay,ax,az⟩:=bI.o.ez;obtain ⟨c6,y1,dp,eb,ef,ej,ek,el,oh⟩:=ew lA.o;go_enter Tryz.func12,Tryz.ntmps12
  go_upto_region 2 with fail
  rw [←c7.o,←aB.o];obtain ⟨z0,z1,z2,z3,z4,z5,b9,cc,cj,cw,bQ⟩:=gR aB.o aH.o hj.o ba.o;go_wp2;refine rt cw.o ?_;exact dc.dL aD.o rfl bQ.o
def Gd (o mR:Int) (t:Tree):Option Tree:=if t.op=mR then (t.kids.findIdx? fun k=> k.op==o).map fun i=> hF t.op t.kids i (i + 1) (t.kids.getD i .nil).kids else none
theorem Hu (W:World) (x y z:Int) (T:Nat):(W.alloc (.cells #[H J x,H J y,H J z] T)).cell? ⟨W.heap.size,0,none⟩=some (H J x)∧(W.alloc (.cells #[H J x,H J y,H J z] T)).cell? ⟨W.heap.size,1,none⟩=some (H J y)∧(W.alloc (.cells #[H J x,H J y,H J z] T)).cell? ⟨W.heap.size,2,none⟩=some (H J z):=by
 refine ⟨?_,?_,?_⟩ <;> (simp only [World.cell?];rw [heap_alloc_new W];rfl)
theorem UJ (r o ta:Int) (aO:(r=0∧o=2∧ta=2)∨(r=1∧o=3∧ta=3)∨(r=2∧o=0∧ta=2)) (m:MRe) (w:World) (aj:m.aK w) (aJ:m.ab.dE) (ad:m.ab.bm≤100000):
  Calls Tryz.prog 12 #[H J r,m.val] w (dc w m.aw (Gd o ta m.ab)):=by
 obtain ⟨R,aC⟩:∃ R,R=Gd o ta m.ab:=⟨_,rfl⟩;rw [←aC];obtain ⟨vP,tZ⟩:∃ vP,vP=m.ab.kids.findIdx? (fun k=> k.op==o):=⟨_,rfl⟩;have nA:=fun (W:World) (h:I [] w W)=> anb m o W (aj.ah h);simp only [LI,←tZ] at nA;have ql:=fun (ds:m.ab.op=ta) i l=> Pb aJ (by rw [ds];rcases aO with ⟨_,_,h⟩ | ⟨_,_,h⟩ | ⟨_,_,h⟩ <;> (subst h;decide)) i (i + 1) l;have eX:=fun (W:World) (h:I [] w W) (i:Nat) (cS:Option Addr) (dH:Nat) (k6:List MRe)=> Pc m i (i + 1) cS dH k6 W (aj.ah h);have eU:=C aj.fi;have kF:R=if m.ab.op=ta then vP.map fun i=> hF m.ab.op m.ab.kids i (i + 1) (m.ab.kids.getD i .nil).kids else none:=by rw [aC,tZ];rfl
 obtain ⟨op,sa,sc,set,ka,kc,kids,mn,mx,mode,n,neg⟩:=m;replace kF:R=if op=ta then vP.map fun i=> hF op (MRe.al kids) i (i + 1) ((MRe.al kids).getD i .nil).kids else none:=kF;replace tZ:vP=(MRe.al kids).findIdx? (fun k=> k.op==o):=tZ;obtain ⟨hbl,_,hbk⟩:=lG ad;obtain ⟨U,cd⟩:∃ U,U=w.heap.size:=⟨_,rfl⟩;obtain ⟨aE,cz,iy,aW,j8,cZ,cq⟩:=Bb w (.node op sa sc set ka kc kids mn mx mode n neg) 26;simp only [MRe.row] at cz;rw [←cd] at iy aW j8 cZ;have aB:=C cd;have c7:=C cz;have bI:=C iy;have ba:=C aW;have lA:=C j8;have aH:=C cq;have hC:=C cZ;simp only [MRe.val] at nA eX ⊢;have b6:=C aj.kids;have hcap:=aj.ch.cap;have fc:=aj.ch.le;unfold maxLen at hcap
 by_cases ds:op=ta
 ·rw [if_pos ds] at kF;have afH:=C (ql ds);have vF:=C eX;clear ql eX;subst ds
  cases vP with
  | none=>
   simp only [yU] at nA;have nA:=C nA;have aD:=C (show R=none from kF);clear aC kF tZ cd cz iy aW j8 cZ cq aj aJ ad;obtain ⟨ar,c1,c2,an,av,ay,ax,az⟩:=bI.o.ez
   rcases aO with ⟨rfl,rfl,rfl⟩ | ⟨rfl,rfl,rfl⟩ | ⟨rfl,rfl,rfl⟩
   all_goals
    go_enter Tryz.func12,Tryz.ntmps12
    go_upto_region 2 with fail
    rw [←c7.o,←aB.o];go_wp2_with fail
    refine wp_region_held_drew (S:=fun w'=> iK w' U _ sa set sc ka kids kc mn mx mode n neg) (by kernel_rfl) ⟨ar,c1,c2,an,av,ay,ax,az⟩ (fun aF=> ?_);refine ag 0 ?_;refine ag 2 ?_;refine bh 1 fun ai af=> ?_;go_simp;have eS:=C ((I.refl [] aE).alloc (.cells #[H J 2,H J 3,H J 0] 3));obtain ⟨n0,n1,bn⟩:=Hu aE 2 3 0 3;refine af.out _ _ ((eS.o.au ar c1 c2 an av ay ax az)) (fun aF=> ?_);clear af ai;try go_frame
    refine ag 3 ?_;refine bh 4 fun ai af=> ?_;go_simp;refine af.out _ _ ((eS.o.drew.au ar c1 c2 an av ay ax az)) (fun aF=> ?_);clear af ai;try go_frame
    refine bh 5 fun ai af=> ?_;go_simp;refine Calls.mono (nA.o _ (aH.o.trans eS.o.drew)) ?_;rintro e w2 ⟨rfl,hk2⟩;have aU:=C (eS.o.drew.trans hk2);clear hk2 n0 n1 bn;refine af.out _ _ ((aU.o.au ar c1 c2 an av ay ax az)) (fun aF=> ?_);clear af ai;try go_frame
    refine ag 6 ?_;refine dR ?_;obtain ⟨bg,aV,a6,bl,bq,bE,bF,bH⟩:=aU.o.au ar c1 c2 an av ay ax az;clear ar c1 c2 an av ay ax az aF;have Tq:(-1:Int) < 0:=by omega
    go_wp2_with fail
    refine wp_region_held_drew (S:=fun w'=> w'.cell? ⟨U,0,none⟩=some (H J _)) (by kernel_rfl) bg (fun aF=> ?_);refine ag 0 ?_;refine ag 1 ?_;refine ag 3 ?_;refine bh 2 fun ai af=> ?_;go_simp;have fU:=C ((I.refl [] w2).alloc (.cells #[H J 2,H J 3,H J 2] 3));obtain ⟨n0,n1,bn⟩:=Hu w2 2 3 2 3;refine af.out _ _ (fU.o.c bg) (fun aF=> ?_);clear af ai;try go_frame
    refine ag 4 ?_;refine bh 5 fun ai af=> ?_;go_simp;refine af.out _ _ (fU.o.drew.c bg) (fun aF=> ?_);clear af ai;try go_frame
    refine ag 6 ?_;refine ag 7 ?_;refine ag 8 ?_;refine ag 9 ?_;refine ag 10 ?_;refine dR ?_;clear n0 n1 bn aF;have aR:=C (aU.o.trans fU.o.drew);obtain ⟨w3,vd⟩:∃ w3,w3=(w2.alloc (.cells #[H J 2,H J 3,H J 2] 3)).drew:=⟨_,rfl⟩;rw [←vd] at aR ⊢;clear fU vd bg aV a6 bl bq bE bF bH eS;obtain ⟨c6,y1,dp,eb,ef,ej,ek,el,oh⟩:=ew (aR.o.h lA.o);obtain ⟨z0,z1,z2,z3,z4,z5,b9,cc,cj,cw,bQ⟩:=gR aB.o aH.o aR.o ba.o;go_wp2;refine rt cw.o ?_;exact dc.dL aD.o rfl bQ.o
  | some i=>
   have hi:i < kids.length:=by have:=RV tZ.symm;rwa [MRe.ee] at this
   have yJ:(MRe.al kids).getD i .nil=(kids[i]'hi).ab:=by rw [List.getD_eq_getElem?_getD,List.getElem?_eq_getElem (by rw [MRe.ee];omega),Option.getD_some,kQ]
   obtain ⟨b,off,rfl,lk,hkx⟩:=aj.kids.ch.dy (by omega);have nz:=C lk;have xS:kids[i]'hi∈kids:=List.getElem_mem hi;have vA:=C (show ∀ x∈(kids[i]'hi).aw,x∈(MRe.node op sa sc set (some ⟨b,off,none⟩) kc kids mn mx mode n neg).aw from mF xS);have C9:=C (aj.dy xS);have zX:=hbk _ xS;have uf:=hkx i hi;have Yy:R=some (hF op (MRe.al kids) i (i + 1) (kids[i]'hi).ab.kids):=by rw [kF,←yJ];rfl
   have rA:=C Yy;obtain ⟨oF,DU⟩:∃ oF,oF=(kids[i]'hi):=⟨_,rfl⟩;rw [←DU] at vA C9 zX uf rA;clear Yy yJ DU xS;obtain ⟨op1,aM,aN,set1,aS,kc1,aq,mn1,aI,mode1,n1,aL⟩:=oF;have g:=uf.node;have cP:=cq.cell g.c2 (by simp);have Vq:=C (lG zX).1;have kS:=C hbl;have yJ:True:=trivial;have ff:=C hi;clear g uf zX lk;simp only [yU] at nA;have nA:=C nA;have kn:(0:Int)≤(i:Int):=by omega
   have Ad:(i:Int) < (kids.length:Int):=by omega
   have hin:i < kids.length:=hi;have pw:¬ (i:Int) < 0:=by omega
   clear aC kF tZ cd cz iy aW j8 cZ cq aj aJ ad hbl hbk hkx hi yJ;obtain ⟨ar,c1,c2,an,av,ay,ax,az⟩:=bI.o.ez
   rcases aO with ⟨rfl,rfl,rfl⟩ | ⟨rfl,rfl,rfl⟩ | ⟨rfl,rfl,rfl⟩
   all_goals
    go_enter Tryz.func12,Tryz.ntmps12
    go_upto_region 2 with fail
    rw [←c7.o,←aB.o];go_wp2_with fail
    refine wp_region_held_drew (S:=fun w'=> iK w' U _ sa set sc (some ⟨b,off,none⟩) kids kc mn mx mode n neg) (by kernel_rfl) ⟨ar,c1,c2,an,av,ay,ax,az⟩ (fun aF=> ?_);refine ag 0 ?_;refine ag 2 ?_;refine bh 1 fun ai af=> ?_;go_simp;have eS:=C ((I.refl [] aE).alloc (.cells #[H J 2,H J 3,H J 0] 3));obtain ⟨n0,n1,bn⟩:=Hu aE 2 3 0 3;refine af.out _ _ ((eS.o.au ar c1 c2 an av ay ax az)) (fun aF=> ?_);clear af ai;try go_frame
    refine ag 3 ?_;refine bh 4 fun ai af=> ?_;go_simp;refine af.out _ _ ((eS.o.drew.au ar c1 c2 an av ay ax az)) (fun aF=> ?_);clear af ai;try go_frame
    refine bh 5 fun ai af=> ?_;go_simp;refine Calls.mono (nA.o _ (aH.o.trans eS.o.drew)) ?_;rintro e w2 ⟨rfl,hk2⟩;have aU:=C (eS.o.drew.trans hk2);clear hk2 n0 n1 bn;refine af.out _ _ ((aU.o.au ar c1 c2 an av ay ax az)) (fun aF=> ?_);clear af ai;try go_frame
    refine ag 6 ?_;refine dR ?_;obtain ⟨bg,aV,a6,bl,bq,bE,bF,bH⟩:=aU.o.au ar c1 c2 an av ay ax az;have cV:=aU.o.c cP;clear ar c1 c2 an av ay ax az cP aF;go_wp2_with fail
    refine wp_region_held_drew (S:=fun w'=> w'.cell? ⟨U,0,none⟩=some (H J _)) (by kernel_rfl) bg (fun aF=> ?_);refine ag 0 ?_;refine ag 1 ?_;refine ag 3 ?_;refine bh 2 fun ai af=> ?_;go_simp;have fU:=C ((I.refl [] w2).alloc (.cells #[H J 2,H J 3,H J 2] 3));obtain ⟨n0,n1,bn⟩:=Hu w2 2 3 2 3;refine af.out _ _ (fU.o.c bg) (fun aF=> ?_);clear af ai;try go_frame
    refine ag 4 ?_;refine bh 5 fun ai af=> ?_;go_simp;refine af.out _ _ (fU.o.drew.c bg) (fun aF=> ?_);clear af ai;try go_frame
    refine ag 6 ?_;refine ag 7 ?_;refine ag 8 ?_;refine ag 9 ?_;refine ag 10 ?_;refine dR ?_;clear n0 n1 bn aF;have aR:=C (aU.o.trans fU.o.drew);obtain ⟨ar,c1,c2,an,av,ay,ax,az⟩:=fU.o.drew.au bg aV a6 bl bq bE bF bH;have cP:=fU.o.drew.c cV;obtain ⟨w3,vd⟩:∃ w3,w3=(w2.alloc (.cells #[H J 2,H J 3,H J 2] 3)).drew:=⟨_,rfl⟩;rw [←vd] at aR ar c1 c2 an av ay ax az cP ⊢;clear fU vd bg aV a6 bl bq bE bF bH cV eS;have hs:=vF.o _ (aH.o.trans aR.o.drew) i aS kc1 aq (C9.o.kids.ah (aH.o.trans aR.o.drew)) (by omega) (by show i + 1≤kids.length;omega) (by show 0 < kids.length;omega) (by show kids.length + aq.length≤1000000;have:=Vq.o;have:=kS.o;omega);rw [show ((i + 1:Nat):Int)=(i:Int) + 1 by omega,afH.o] at hs;have cW:=C hs;clear hs;have mN:IntKind.i64.wrap ((i:Int) + 1)=(i:Int) + 1:=IntWalk.i64_in _ (by have:=kS.o;omega);go_wp2_with fail
    refine wp_region_held_drew (S:=fun w'=> w'.cell? ⟨b,off + i * 8 + 2,none⟩=some (M aS aq.length kc1)∧w'.cell? ⟨U,0,none⟩=some (H J _)∧w'.cell? ⟨U,1,none⟩=some (M sa set.length sc)∧w'.cell? ⟨U,2,none⟩=some (M (some ⟨b,off,none⟩) kids.length kc)∧w'.cell? ⟨U,3,none⟩=some (H J mn)∧w'.cell? ⟨U,4,none⟩=some (H J mx)∧w'.cell? ⟨U,5,none⟩=some (H J mode)∧w'.cell? ⟨U,6,none⟩=some (H J n)∧w'.cell? ⟨U,7,none⟩=some (F neg)) (by kernel_rfl) ⟨cP,ar,c1,c2,an,av,ay,ax,az⟩ (fun aF=> ?_);refine ag 0 ?_;refine ag 1 ?_;refine ag 2 ?_;refine ag 3 ?_;refine ag 4 ?_;refine ag 5 ?_;refine ag 6 ?_;refine ag 7 ?_;refine ag 8 ?_;refine ag 9 ?_;refine bh 10 fun ai af=> ?_;go_simp;refine Calls.mono cW.o ?_;rintro e fN ⟨ae,rfl,a7,aT,cU,hqf⟩;have pM:=C cU;have gu:=C (aR.o.drew.trans cU);have dK:=C a7;have dA:=C aT;have et:=C hqf;obtain ⟨q0,bN⟩:∃ q0,q0=ae:=⟨_,rfl⟩;rw [←bN] at dK dA et;have dt:=C bN;clear a7 aT cU hqf bN;obtain ⟨bA,bB,bC,bD,bs,bt,bu,bo,bx,bw,bp,bz⟩:=ae;simp only [MRe.val];have k0:=C (((I.refl [] w3).drew).trans pM.o);refine af.out _ _ (⟨k0.o.c cP,k0.o.c ar,k0.o.c c1,k0.o.c c2,k0.o.c an,k0.o.c av,k0.o.c ay,k0.o.c ax,k0.o.c az⟩) (fun aF=> ?_);clear af ai;try go_frame
    obtain ⟨z0,z1,z2,z3,z4,z5,b9,cc,cj⟩:=ew (gu.o.h ba.o);have hfr:=vp (lo:=U + 2) et.o (fun x hx=> .inl (vA.o x (by simp only [MRe.aw,List.mem_append];exact .inr (.inr hx)))) (Nat.le_trans hC.o aR.o.drew.size);rw [dt.o] at hfr;obtain ⟨aY,cm,fy,gB⟩:=nd aB.o aH.o gu.o ba.o (by rw [←dt.o];exact dA.o) hfr eU.o;have eo:=C aY;have ey:=C cm;have fS:=C fy;have fT:=C gB;have bk:=C (jv fN (U + 1) (H J bA) (M bB bD.length bC) (M bs bu.length bt) (H J bo) (H J bx) (H J bw) (H J bp) (F bz));clear hfr aY cm fy gB;refine bh 11 fun ai af=> ?_;go_simp;refine af.out _ _ (⟨bk.o.cell (k0.o.c cP) (by have:=nz.o;have:=aB.o;simp;omega),bk.o.cell (k0.o.c ar) (by simp),bk.o.cell (k0.o.c c1) (by simp),bk.o.cell (k0.o.c c2) (by simp),bk.o.cell (k0.o.c an) (by simp),bk.o.cell (k0.o.c av) (by simp),bk.o.cell (k0.o.c ay) (by simp),bk.o.cell (k0.o.c ax) (by simp),bk.o.cell (k0.o.c az) (by simp)⟩) (fun aF=> ?_);clear af ai;try go_frame
    refine ag 12 ?_;refine dR ?_;clear ar c1 c2 an av ay ax az cP aF z0 z1 z2 z3 z4 z5 b9 cc cj;go_wp2;refine rt eo.o ?_;exact dc.iI (.node bA bB bC bD bs bt bu bo bx bw bp bz) (by rw [rA.o,←dt.o,dK.o];rfl) rfl ey.o fS.o fT.o
 ·
  have aD:=C (show R=none by rw [kF,if_neg ds]);have Cx:(op==ta)=false:=by simpa using ds
  have akp:(op !=ta)=true:=by simpa using ds
  obtain ⟨Et,uf⟩:∃ Et,Et=yU vP:=⟨_,rfl⟩;simp only [←uf] at nA;have nA:=C nA;clear uf;clear aC kF tZ cd cz iy aW j8 cZ cq aj aJ ad ql eX hbk ds;obtain ⟨ar,c1,c2,an,av,ay,ax,az⟩:=bI.o.ez
  rcases aO with ⟨rfl,rfl,rfl⟩ | ⟨rfl,rfl,rfl⟩ | ⟨rfl,rfl,rfl⟩
  all_goals
   go_enter Tryz.func12,Tryz.ntmps12
   go_upto_region 2 with fail
   rw [←c7.o,←aB.o];go_wp2_with fail
   refine wp_region_held_drew (S:=fun w'=> iK w' U op sa set sc ka kids kc mn mx mode n neg) (by kernel_rfl) ⟨ar,c1,c2,an,av,ay,ax,az⟩ (fun aF=> ?_);refine ag 0 ?_;refine ag 2 ?_;refine bh 1 fun ai af=> ?_;go_simp;have eS:=C ((I.refl [] aE).alloc (.cells #[H J 2,H J 3,H J 0] 3));obtain ⟨n0,n1,bn⟩:=Hu aE 2 3 0 3;refine af.out _ _ ((eS.o.au ar c1 c2 an av ay ax az)) (fun aF=> ?_);clear af ai;try go_frame
   refine ag 3 ?_;refine bh 4 fun ai af=> ?_;go_simp;refine af.out _ _ ((eS.o.drew.au ar c1 c2 an av ay ax az)) (fun aF=> ?_);clear af ai;try go_frame
   refine bh 5 fun ai af=> ?_;go_simp;refine Calls.mono (nA.o _ (aH.o.trans eS.o.drew)) ?_;rintro e w2 ⟨rfl,hk2⟩;have aU:=C (eS.o.drew.trans hk2);clear hk2 n0 n1 bn;refine af.out _ _ ((aU.o.au ar c1 c2 an av ay ax az)) (fun aF=> ?_);clear af ai;try go_frame
   refine ag 6 ?_;refine dR ?_;obtain ⟨bg,aV,a6,bl,bq,bE,bF,bH⟩:=aU.o.au ar c1 c2 an av ay ax az;clear ar c1 c2 an av ay ax az aF;go_wp2_with fail
   refine wp_region_held_drew (S:=fun w'=> w'.cell? ⟨U,0,none⟩=some (H J op)) (by kernel_rfl) bg (fun aF=> ?_);refine ag 0 ?_;refine ag 1 ?_;refine ag 3 ?_;refine bh 2 fun ai af=> ?_;go_simp;have fU:=C ((I.refl [] w2).alloc (.cells #[H J 2,H J 3,H J 2] 3));obtain ⟨n0,n1,bn⟩:=Hu w2 2 3 2 3;refine af.out _ _ (fU.o.c bg) (fun aF=> ?_);clear af ai;try go_frame
   refine ag 4 ?_;refine bh 5 fun ai af=> ?_;go_simp;refine af.out _ _ (fU.o.drew.c bg) (fun aF=> ?_);clear af ai;try go_frame
   refine ag 6 ?_;refine ag 7 ?_;refine c9 8 ?_;refine c9 9 ?_;refine ag 10 ?_;refine dR ?_;clear n0 n1 bn aF;have aR:=C (aU.o.trans fU.o.drew);obtain ⟨w3,vd⟩:∃ w3,w3=(w2.alloc (.cells #[H J 2,H J 3,H J 2] 3)).drew:=⟨_,rfl⟩;rw [←vd] at aR ⊢;clear fU vd bg aV a6 bl bq bE bF bH eS;obtain ⟨c6,y1,dp,eb,ef,ej,ek,el,oh⟩:=ew (aR.o.h lA.o);obtain ⟨z0,z1,z2,z3,z4,z5,b9,cc,cj,cw,bQ⟩:=gR aB.o aH.o aR.o ba.o;go_wp2;refine rt cw.o ?_;exact dc.dL aD.o rfl bQ.o
theorem amJ (m:MRe) (w:World) (aj:m.aK w) (aJ:m.ab.dE) (ad:m.ab.bm≤100000):
  Calls Tryz.prog 12 #[H J 0,m.val] w (dc w m.aw (Gd 2 2 m.ab)):=UJ 0 2 2 (.inl ⟨rfl,rfl,rfl⟩) m w aj aJ ad
theorem amR (m:MRe) (w:World) (aj:m.aK w) (aJ:m.ab.dE) (ad:m.ab.bm≤100000):
  Calls Tryz.prog 12 #[H J 1,m.val] w (dc w m.aw (Gd 3 3 m.ab)):=UJ 1 3 3 (.inr (.inl ⟨rfl,rfl,rfl⟩)) m w aj aJ ad
theorem amS (m:MRe) (w:World) (aj:m.aK w) (aJ:m.ab.dE) (ad:m.ab.bm≤100000):
  Calls Tryz.prog 12 #[H J 2,m.val] w (dc w m.aw (Gd 0 2 m.ab)):=UJ 2 0 2 (.inr (.inr ⟨rfl,rfl,rfl⟩)) m w aj aJ ad
theorem adY:∀ {l s:List Tree} {i:Nat},oK s l=some i→i < l.length
 | [],_,_,h=> by simp [oK] at h
 | x::r,s,i,h=> by
  rw [oK] at h
  split at h
  ·cases h;simp
  ·cases hn:oK (s ++ [x]) r with
   | none=> rw [hn] at h;simp at h
   | some k=>
    rw [hn] at h;simp at h
    have:=adY hn
    simp
    omega
theorem amT (m:MRe) (w:World) (aj:m.aK w) (aJ:m.ab.dE) (ad:m.ab.bm≤100000):
  Calls Tryz.prog 12 #[H J 3,m.val] w (dc w m.aw (CX m.ab)):=by
 obtain ⟨R,aC⟩:∃ R,R=CX m.ab:=⟨_,rfl⟩;rw [←aC];obtain ⟨vP,tZ⟩:∃ vP,vP=oK [] m.ab.kids:=⟨_,rfl⟩;have nA:=fun (W:World) (h:I [] w W)=> amH m W (aj.ah h) ad;simp only [←tZ] at nA;have ql:=fun (ds:m.ab.op=3) i l=> Pb aJ (by rw [ds];decide) i (i + 1) l;have eX:=fun (W:World) (h:I [] w W) (i:Nat)=> Pc m i (i + 1) none 0 [] W (aj.ah h) (gT.nil W);have eU:=C aj.fi;have kF:R=if m.ab.op=3 then vP.map fun i=> hF 3 m.ab.kids i (i + 1) [] else none:=by rw [aC,tZ];rfl
 obtain ⟨op,sa,sc,set,ka,kc,kids,mn,mx,mode,n,neg⟩:=m;replace kF:R=if op=3 then vP.map fun i=> hF 3 (MRe.al kids) i (i + 1) [] else none:=kF;replace tZ:vP=oK [] (MRe.al kids):=tZ;obtain ⟨hbl,_,hbk⟩:=lG ad;obtain ⟨U,cd⟩:∃ U,U=w.heap.size:=⟨_,rfl⟩;obtain ⟨aE,cz,iy,aW,j8,cZ,cq⟩:=Bb w (.node op sa sc set ka kc kids mn mx mode n neg) 26;simp only [MRe.row] at cz;rw [←cd] at iy aW j8 cZ;have aB:=C cd;have c7:=C cz;have bI:=C iy;have ba:=C aW;have lA:=C j8;have aH:=C cq;have hC:=C cZ;simp only [MRe.val] at nA eX ⊢;have hcap:=aj.ch.cap;have fc:=aj.ch.le;unfold maxLen at hcap
 by_cases ds:op=3
 ·rw [if_pos ds] at kF;have ql:=C (ql ds);have eX:=C eX;subst ds
  cases vP with
  | none=>
   simp only [yU] at nA;have nA:=C nA;have aD:=C (show R=none from kF);have Tq:(-1:Int) < 0:=by omega
   clear aC kF tZ cd cz iy aW j8 cZ cq aj aJ ad hbl hbk;obtain ⟨ar,c1,c2,an,av,ay,ax,az⟩:=bI.o.ez;go_enter Tryz.func12,Tryz.ntmps12
   go_upto_region 2 with fail
   rw [←c7.o,←aB.o];go_wp2_with fail
   refine Calls.mono (nA.o _ aH.o) ?_;rintro e w2 ⟨rfl,hk2⟩;have aR:=C hk2;have bg:=hk2.c ar;clear hk2 ar c1 c2 an av ay ax az;obtain ⟨c6,y1,dp,eb,ef,ej,ek,el,oh⟩:=ew (aR.o.h lA.o);obtain ⟨z0,z1,z2,z3,z4,z5,b9,cc,cj,cw,bQ⟩:=gR aB.o aH.o aR.o ba.o;go_wp2;refine rt cw.o ?_;exact dc.dL aD.o rfl bQ.o
  | some i=>
   have hi:i < kids.length:=by have:=adY tZ.symm;rwa [MRe.ee] at this
   have rA:=C (show R=some (hF 3 (MRe.al kids) i (i + 1) []) from kF);have kS:=C hbl;simp only [yU] at nA;have nA:=C nA;have kn:(0:Int)≤(i:Int):=by omega
   have pw:¬ (i:Int) < 0:=by omega
   have ff:=C hi;have mN:IntKind.i64.wrap ((i:Int) + 1)=(i:Int) + 1:=IntWalk.i64_in _ (by omega);clear aC kF tZ cd cz iy aW j8 cZ cq aj aJ ad hbl hbk hi;obtain ⟨ar,c1,c2,an,av,ay,ax,az⟩:=bI.o.ez;go_enter Tryz.func12,Tryz.ntmps12
   go_upto_region 2 with fail
   rw [←c7.o,←aB.o];go_wp2_with fail
   refine Calls.mono (nA.o _ aH.o) ?_;rintro e w2 ⟨rfl,hk2⟩;have aR:=C hk2;obtain ⟨bg,aV,a6,bl,bq,bE,bF,bH⟩:=hk2.au ar c1 c2 an av ay ax az;have hs:=eX.o _ (aH.o.trans aR.o) i (by omega) (by show i + 1≤kids.length;have:=ff.o;omega) (by show 0 < kids.length;have:=ff.o;omega) (by show kids.length + 0≤1000000;have:=kS.o;omega);rw [show ((i + 1:Nat):Int)=(i:Int) + 1 by omega,ql.o] at hs;have cW:=C hs;clear hk2 hs ar c1 c2 an av ay ax az;go_wp2_with fail
   refine Calls.mono cW.o ?_;rintro e fN ⟨ae,rfl,a7,aT,cU,hqf⟩;have gu:=C (aR.o.trans cU);have dK:=C a7;have dA:=C aT;have et:=C hqf;obtain ⟨q0,bN⟩:∃ q0,q0=ae:=⟨_,rfl⟩;rw [←bN] at dK dA et;have dt:=C bN;clear a7 aT cU hqf bN bg aV a6 bl bq bE bF bH;obtain ⟨bA,bB,bC,bD,bs,bt,bu,bo,bx,bw,bp,bz⟩:=ae;simp only [MRe.val];obtain ⟨z0,z1,z2,z3,z4,z5,b9,cc,cj⟩:=ew (gu.o.h ba.o);have hfr:=vp (lo:=U + 2) et.o (fun x hx=> by simp [MRe.dN] at hx) (Nat.le_trans hC.o aR.o.size);rw [dt.o] at hfr;obtain ⟨aY,cm,fy,gB⟩:=nd aB.o aH.o gu.o ba.o (by rw [←dt.o];exact dA.o) hfr eU.o;have eo:=C aY;have ey:=C cm;have fS:=C fy;have fT:=C gB;clear hfr aY cm fy gB;go_wp2;refine rt eo.o ?_;exact dc.iI (.node bA bB bC bD bs bt bu bo bx bw bp bz) (by rw [rA.o,←dt.o,dK.o];rfl) rfl ey.o fS.o fT.o
 ·
  have aD:=C (show R=none by rw [kF,if_neg ds]);have Cx:(op==3)=false:=by simpa using ds
  have akp:(op !=3)=true:=by simpa using ds
  obtain ⟨Et,uf⟩:∃ Et,Et=yU vP:=⟨_,rfl⟩;simp only [←uf] at nA;have nA:=C nA;clear uf aC kF tZ cd cz iy aW j8 cZ cq aj aJ ad hbl hbk ql eX ds;obtain ⟨ar,c1,c2,an,av,ay,ax,az⟩:=bI.o.ez;go_enter Tryz.func12,Tryz.ntmps12
  go_upto_region 2 with fail
  rw [←c7.o,←aB.o];go_wp2_with fail
  refine Calls.mono (nA.o _ aH.o) ?_;rintro e w2 ⟨rfl,hk2⟩;have aR:=C hk2;have bg:=hk2.c ar;clear hk2 ar c1 c2 an av ay ax az;obtain ⟨c6,y1,dp,eb,ef,ej,ek,el,oh⟩:=ew (aR.o.h lA.o);obtain ⟨z0,z1,z2,z3,z4,z5,b9,cc,cj,cw,bQ⟩:=gR aB.o aH.o aR.o ba.o;go_wp2;refine rt cw.o ?_;exact dc.dL aD.o rfl bQ.o
theorem aiF {w:World} {b:Nat} {o:Obj} (h:w.heap[b]? =some o):w.drew.heap[b]? =some o:=h
theorem X4 {t:Tree} (h:t.dE):sO t=yB t:=by
 cases t with
 | node op set kids mn mx mode n neg=>
  have hn:=h.node
  by_cases h4:op=4
  ·have h0:=(hn.Cz h4).1;have aV:yB (.node op set kids mn mx mode n neg)=(op==4 && (decide (mn≤1) && (mx== -1 && mode==0))):=rfl;have a6:sO (.node op set kids mn mx mode n neg)=((op==4 && (mode==0 && (mn==0 && mx== -1))) || (op==4 && (mode==0 && (mn==1 && mx== -1)))):=rfl;rw [aV,a6,Bool.eq_iff_iff];simp only [Bool.or_eq_true,Bool.and_eq_true,beq_iff_eq,decide_eq_true_eq];omega
  ·have ad:(op==4)=false:=by simpa using h4
   simp [sO,oI,sg,yB,Tree.op,ad]
theorem XB {op set kids mn mx mode n neg} (h:yB (.node op set kids mn mx mode n neg)=true):op=4∧mn≤1:=by
 have aV:yB (.node op set kids mn mx mode n neg)=(op==4 && (decide (mn≤1) && (mx== -1 && mode==0))):=rfl;rw [aV] at h;simp only [Bool.and_eq_true,beq_iff_eq,decide_eq_true_eq] at h;exact ⟨h.1,h.2.1⟩
theorem amY (m:MRe) (w:World) (aj:m.aK w) (aJ:m.ab.dE):
  Calls Tryz.prog 12 #[H J 8,m.val] w (dc w m.aw (sq m.ab)):=by
 obtain ⟨R,aC⟩:∃ R,R=sq m.ab:=⟨_,rfl⟩;rw [←aC];have uW:=X4 aJ;have gw:=fun W=> acV m W;have uX:=fun (h:yB m.ab=true)=> h;obtain ⟨cT,gQ⟩:∃ cT,cT=yB m.ab:=⟨_,rfl⟩;rw [←gQ] at uW;simp only [←gQ] at gw;obtain ⟨op,sa,sc,set,ka,kc,kids,mn,mx,mode,n,neg⟩:=m;replace gQ:cT=yB (.node op set (MRe.al kids) mn mx mode n neg):=gQ;replace uW:sO (.node op set (MRe.al kids) mn mx mode n neg)=cT:=uW;have eC:=kB aJ;obtain ⟨U,cd⟩:∃ U,U=w.heap.size:=⟨_,rfl⟩;obtain ⟨aE,cz,iy,aW,j8,cZ,cq⟩:=Bb w (.node op sa sc set ka kc kids mn mx mode n neg) 26;simp only [MRe.row] at cz;rw [←cd] at iy aW j8 cZ;have aB:=C cd;have c7:=C cz;have bI:=C iy;have ba:=C aW;have lA:=C j8;have aH:=C cq;have hC:=C cZ;have eU:=C aj.fi;clear cd cz iy aW j8 cq cZ uX;replace aC:R=if sO (.node op set (MRe.al kids) mn mx mode n neg)=true∧sO ((MRe.al kids).getD 0 .nil)=true∧fA (((MRe.al kids).getD 0 .nil).kids.getD 0 .nil)=false then some (.node 4 [] ((MRe.al kids).getD 0 .nil).kids (min mn ((MRe.al kids).getD 0 .nil).mn) (-1) 0 0 false) else none:=aC;rw [uW] at aC;simp only [MRe.val] at gw ⊢;have gw:=C gw
 cases cT with
 | false=>
  have aD:=C (show R=none from aC.trans (if_neg (fun h=> by cases h.1)));clear aC gQ uW aj aJ eC;obtain ⟨ar,c1,c2,an,av,ay,ax,az⟩:=bI.o.ez;go_enter Tryz.func12,Tryz.ntmps12
  go_upto_region 2 with fail
  rw [←c7.o,←aB.o];go_wp2_with fail
  refine Calls.mono (gw.o _) ?_;rintro e w2 ⟨rfl,hk2⟩;have aU:=C hk2;clear hk2 ar c1 c2 an av ay ax az;obtain ⟨c6,y1,dp,eb,ef,ej,ek,el,oh⟩:=ew (aU.o.h lA.o);obtain ⟨z0,z1,z2,z3,z4,z5,b9,cc,cj,cw,bQ⟩:=gR aB.o aH.o aU.o ba.o;go_wp2;refine rt cw.o ?_;exact dc.dL aD.o rfl bQ.o
 | true=>
  obtain ⟨rfl,Z6⟩:=XB gQ.symm;have Z5:=(eC.Cz rfl).1;have lE:kids.length=1:=eC.hone (by simp);have l7:0 < kids.length:=by omega
  have hln:(0:Int) < (kids.length:Int):=by omega
  obtain ⟨b1,cR,dq,rfl,iM,hD,jf,hP⟩:=aj.kids.head l7;obtain ⟨r,aO⟩:=oJ hD;have hg:(MRe.al kids).getD 0 .nil=dq.ab:=by rw [aO];rfl
  rw [hg] at aC;have Bf:=mS aJ iM;rw [X4 Bf] at aC;have AR:=fun W=> acV dq W;have vx:=C (show ∀ b∈dq.aw,b∈(MRe.node 4 sa sc set (some ⟨b1,cR,none⟩) kc kids mn mx mode n neg).aw from mF iM);have mm:=C (show b1 < w.heap.size from eU.o b1 (by simp only [MRe.aw,List.mem_append];exact .inr (.inl (by simp [df,lE]))));obtain ⟨s2,gn⟩:∃ s2,s2=yB dq.ab:=⟨_,rfl⟩;rw [←gn] at aC;simp only [←gn] at AR;obtain ⟨op1,aM,aN,set1,aS,kc1,aq,mn1,aI,mode1,n1,aL⟩:=dq;replace gn:s2=yB (.node op1 set1 (MRe.al aq) mn1 aI mode1 n1 aL):=gn;replace aC:R=if true=true∧s2=true∧fA ((MRe.al aq).getD 0 .nil)=false then some (.node 4 [] (MRe.al aq) (min mn mn1) (-1) 0 0 false) else none:=aC;have Oa:=kB Bf;have g:=jf.node;obtain ⟨bg,aV,a6,bl,bq,bE,bF,bH⟩:=id g;obtain ⟨bK,d1,d2,bL,bO,bT,bU,bV⟩:=aH.o.au bg aV a6 bl bq bE bF bH;simp only [MRe.val] at AR;have AR:=C AR;clear g bg aV a6 bl bq bE bF bH aO hg hD jf iM gQ uW eC aJ aj;obtain ⟨ar,c1,c2,an,av,ay,ax,az⟩:=bI.o.ez
  cases s2 with
  | false=>
   have aD:=C (show R=none from aC.trans (if_neg (fun h=> by cases h.2.1)));clear aC gn Oa Bf hP lE Z6 Z5;go_enter Tryz.func12,Tryz.ntmps12
   go_upto_region 2 with fail
   rw [←c7.o,←aB.o];go_wp2_with fail
   refine Calls.mono (gw.o _) ?_;rintro e w2 ⟨rfl,hk2⟩;have aU:=C hk2;have u2:=hk2.c c2;obtain ⟨v0,v1,v2,v3,v4,v5,v6,v7⟩:=aU.o.au bK d1 d2 bL bO bT bU bV;clear hk2 ar c1 c2 an av ay ax az bK d1 d2 bL bO bT bU bV;go_wp2_with fail
   refine Calls.mono (AR.o _) ?_;rintro e w3 ⟨rfl,aP⟩;have aR:=C (aU.o.trans aP);clear aP u2 v0 v1 v2 v3 v4 v5 v6 v7;obtain ⟨c6,y1,dp,eb,ef,ej,ek,el,oh⟩:=ew (aR.o.h lA.o);obtain ⟨z0,z1,z2,z3,z4,z5,b9,cc,cj,cw,bQ⟩:=gR aB.o aH.o aR.o ba.o;go_wp2;refine rt cw.o ?_;exact dc.dL aD.o rfl bQ.o
  | true=>
   obtain ⟨rfl,akh⟩:=XB gn.symm;have akg:=(Oa.Cz rfl).1;have Te:aq.length=1:=Oa.hone (by simp);have akc:0 < aq.length:=by omega
   have aqM:(0:Int) < (aq.length:Int):=by omega
   have AX:=C hP.kids;obtain ⟨b2,eH,kk,rfl,ZJ,Tb,ZI,ZK⟩:=hP.kids.head akc;obtain ⟨r,aO⟩:=oJ Tb;have hg:(MRe.al aq).getD 0 .nil=kk.ab:=by rw [aO];rfl
   rw [hg] at aC;have hK:=fun W (h:I [] w W)=> CR kk W (ZK.ah h) (mS Bf ZJ).ae;obtain ⟨ae,hq⟩:∃ ae,ae=fA kk.ab:=⟨_,rfl⟩;rw [←hq] at aC;simp only [←hq] at hK;obtain ⟨op2,cg,cf,bj,ct,kc2,a8,mn2,bY,bX,bn,bZ⟩:=kk;have g:=ZI.node;obtain ⟨bg,aV,a6,bl,bq,bE,bF,bH⟩:=id g;obtain ⟨ep,aJ,cP,eM,eF,eN,eO,eP⟩:=aH.o.au bg aV a6 bl bq bE bF bH;simp only [MRe.val] at hK;have hK:=C hK;have dW:=C aC;obtain ⟨p,hp⟩:∃ p,p=min mn mn1:=⟨_,rfl⟩;have Z9:mn * mn1=p:=by
    rw [hp];obtain rfl | rfl:mn=0∨mn=1:=by omega
    ·omega
    ·omega
   have xU:0≤p∧p≤1:=by omega
   have mN:IntKind.i64.wrap (mn * mn1)=p:=by rw [Z9];exact IntWalk.i64_in _ (by omega)
   have eg:=C hp;clear g bg aV a6 bl bq bE bF bH aO hg Tb ZI ZJ ZK gn Oa Bf hP lE Z6 Z5 akh akg Te Z9 xU hp aC hq;go_enter Tryz.func12,Tryz.ntmps12
   go_upto_region 2 with fail
   rw [←c7.o,←aB.o];go_wp2_with fail
   refine Calls.mono (gw.o _) ?_;rintro e w2 ⟨rfl,hk2⟩;have aU:=C hk2;have u2:=hk2.c c2;have u3:=hk2.c an;obtain ⟨v0,v1,v2,v3,v4,v5,v6,v7⟩:=aU.o.au bK d1 d2 bL bO bT bU bV;obtain ⟨g0,g1,g2,g3,kx,k4,dz,kE⟩:=aU.o.au ep aJ cP eM eF eN eO eP;clear hk2 ar c1 c2 an av ay ax az bK d1 d2 bL bO bT bU bV ep aJ cP eM eF eN eO eP;go_wp2_with fail
   refine Calls.mono (AR.o _) ?_;rintro e w3 ⟨rfl,aP⟩;have aR:=C (aU.o.trans aP);have c2:=aP.c u2;have an:=aP.c u3;have d2:=aP.c v2;have bL:=aP.c v3;obtain ⟨ep,aJ,cP,eM,eF,eN,eO,eP⟩:=aP.au g0 g1 g2 g3 kx k4 dz kE;clear aP u2 u3 v0 v1 v2 v3 v4 v5 v6 v7 g0 g1 g2 g3 kx k4 dz kE;go_wp2_with fail
   refine Calls.mono (hK.o _ (aH.o.trans aR.o)) ?_;rintro e w4 ⟨rfl,bc⟩;have cl:=C (aR.o.trans bc);have u2:=bc.c c2;have u3:=bc.c an;have v2:=bc.c d2;have v3:=bc.c bL;clear bc c2 an d2 bL ep aJ cP eM eF eN eO eP
   cases ae with
   | true=>
    have aD:=C (show R=none from dW.o.trans (if_neg (fun h=> by cases h.2.2)));clear u2 u3 v2 v3;obtain ⟨c6,y1,dp,eb,ef,ej,ek,el,oh⟩:=ew (cl.o.h lA.o);obtain ⟨z0,z1,z2,z3,z4,z5,b9,cc,cj,cw,bQ⟩:=gR aB.o aH.o cl.o ba.o;go_wp2;refine rt cw.o ?_;exact dc.dL aD.o rfl bQ.o
   | false=>
    have aD:=C (show R=some (.node 4 [] (MRe.al aq) p (-1) 0 0 false) from (dW.o.trans (if_pos (by simp))).trans (by rw [eg.o]));obtain ⟨z0,z1,z2,z3,z4,z5,b9,cc,cj⟩:=ew (cl.o.h ba.o);obtain ⟨aY,cm,fy,gB⟩:=nd (W:=w4) (op:=4) (sa:=none) (sc:=0) (set:=[]) (ka:=some ⟨b2,eH,none⟩) (kc:=kc1) (kids:=aq) (mn:=p) (mx:= -1) (mode:=0) (n:=0) (neg:=false) (src:=(MRe.node 4 sa sc set (some ⟨b1,cR,none⟩) kc kids mn mx mode n neg).aw) aB.o aH.o cl.o ba.o (.hR (eK.nil _) (AX.o.ah (aH.o.trans cl.o))) (du.rR (fun x hx=> vx.o x (by
     simp only [MRe.aw,List.mem_append] at hx ⊢
     rcases hx with h | h
     ·simp [df] at h
     ·exact .inr h))) eU.o
    have eo:=C (aiF aY);have ey:=C (cm.ah ((I.refl [] _).drew));have fS:=C fy.drew;have fT:=C gB;have bk:=C (jv w4 (U + 1) (H J 4) (M none 0 0) (M (some ⟨b2,eH,none⟩) aq.length kc1) (H J p) (H J (-1)) (H J 0) (H J 0) (F false));clear aY cm fy gB;go_wp2_with fail
    refine rg (S:=fun w'=> w'.cell? ⟨U,2,none⟩=some (M (some ⟨b1,cR,none⟩) kids.length kc)∧w'.cell? ⟨U,3,none⟩=some (H J mn)∧w'.cell? ⟨b1,cR + 2,none⟩=some (M (some ⟨b2,eH,none⟩) aq.length kc1)∧w'.cell? ⟨b1,cR + 3,none⟩=some (H J mn1)) (fun _ k=> ⟨k.c u2,k.c u3,k.c v2,k.c v3⟩) fun bM aF=> ?_;refine ag 0 ?_;refine ag 1 ?_;refine ag 2 ?_;refine ag 3 ?_;refine ag 4 ?_;refine ag 5 ?_;refine ag 6 ?_;refine ag 7 ?_;refine ag 8 ?_;refine ag 9 ?_;refine ag 10 ?_;refine ag 11 ?_;refine ag 12 ?_;refine ag 13 ?_;refine bh 14 fun ai af=> ?_;go_simp;have hne:=mm.o;have akn:=aB.o;refine af.out _ _ (⟨bk.o.drew.c u2,bk.o.drew.c u3,bk.o.drew.cell v2 (by simp;omega),bk.o.drew.cell v3 (by simp;omega)⟩) (fun aF=> ?_);clear af ai;try go_frame
    refine ag 15 ?_;refine dR ?_;clear hne akn u2 u3 v2 v3 z0 z1 z2 z3 z4 z5 b9 cc cj aF;go_wp2;refine rt eo.o ?_;exact dc.iI (.node 4 none 0 [] (some ⟨b2,eH,none⟩) kc1 aq p (-1) 0 0 false) aD.o rfl ey.o fS.o fT.o
end Go.Proofs.YtjnlkjlbejelgaaGreat
