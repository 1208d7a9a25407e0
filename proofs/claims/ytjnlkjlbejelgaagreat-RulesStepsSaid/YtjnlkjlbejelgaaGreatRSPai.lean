/- Part of the proof. No condition: every lemma says its own. -/
import Derived.Deep.LoopGhost
import Derived.OpenShut
import Derived.Shelf.Sort.Plain
import Derived.Shelf.Slices.CompactI
import Derived.Test.YtjnlkjlbejelgaaGreatRSPah
namespace Go.Proofs.YtjnlkjlbejelgaaGreat
open Go.RowKit
open Go.Value renaming int→H,slice→M,bool→F
open Go.IntKind renaming i64→J
open Go.RowKit Go.Shelf
open Go.RowKit Go.Shelf Go.Sort
set_option maxRecDepth 100000
set_option maxHeartbeats 16000000
theorem JY (r:Nat) (o:Option Tree) (m:MRe) (w:World) (aO:r < 17) (aj:m.aK w) (he:n2 (wm r)) (ad:∀ t,o=some t→t.bm≤1000000)
  (hrule:∀ W,I [] w W→Calls Tryz.prog (wm r) #[m.val] W (dc W m.aw o)):
  Calls Tryz.prog 11 #[H J r,m.val] w (U9 w o):=by
 have m8:∀ (fn:Fn) (first cap:Array Value) (w:World),(Instr.makeFunc fn first cap).run Tryz.prog w=.ok (.func fn first cap) w:=fun _ _ _ _=> rfl;have mE:=C (fun (W:World) (h:I [] w W)=> (show Calls Tryz.prog (wm r) #[m.val] W (Mq W m.aw o) from Calls.mono (hrule W h) fun _ _ h=> dc.any h));have eU:=C aj.fi;have jE:=C ad;unfold n2 at he;obtain ⟨op,sa,sc,set,ka,kc,kids,mn,mx,mode,n,neg⟩:=m;simp only [MRe.val] at mE ⊢;obtain ⟨td,hF⟩:∃ td,td=wm r:=⟨_,rfl⟩;rw [←hF] at mE he;have gj:=C hF;obtain ⟨U,cd⟩:∃ U,U=w.heap.size:=⟨_,rfl⟩;clear aj hrule ad hF
 go_enter_defers Tryz.func11,Tryz.ntmps11
 go_wp2_with fail
 refine Calls.mono (Ps _) ?_;rintro e w2 ⟨g,rfl,Aq,hk,hg⟩;have aW:w2.heap[w.heap.size + 1]? =some cO:=hk.heap ((I.a1 _ _).heap (heap_alloc2_new w _ _) (by simp)) (by simp);have ad:w2.heap[w.heap.size + 2]? =some (.cells #[F false] 4 (0,0)):=hk.heap (by have h:=heap_alloc_new ((w.alloc (bf op sa set sc ka kids kc mn mx mode n neg)).alloc cO) (.cells #[F false] 4);simpa using h) (by simp);have hx:w2.heap[w.heap.size]? =some (bf op sa set sc ka kids kc mn mx mode n neg):=hk.heap ((I.a2 (w.alloc (bf op sa set sc ka kids kc mn mx mode n neg)) _ _).heap (heap_alloc_new w _) (by simp)) (by simp);have gn:w.heap.size + 3≤w2.heap.size:=by have:=hk.size;simpa using this
 have hgB:w.heap.size + 3≤g:=by simpa using hg
 have aU:=C ((I.a3 w _ _ _).trans hk);rw [←cd] at aW ad hx gn hgB ⊢;obtain ⟨ar,c1,c2,an,av,ay,ax,az⟩:=eR hx;have ht:=Pt Aq r aO;rw [←gj.o] at ht;have ba:=C aW;have kS:=C ad;have aB:=C cd;have uY:(0:Int)≤(r:Int):=by omega
 have gL:¬ (r:Int) < 0:=by omega
 have p4:(r:Int) < 17:=by omega
 have rh:¬ (17:Int)≤(r:Int):=by omega
 have uC:=C hgB;have j3:=C gn;clear Aq hk hg aW ad cd hx hgB gn;go_upto_region 5 with fail
 go_cut [7] from 19 to 28 (fun lJ db=> ∃ (kE:Nat) (r:MRe) (ak:World),ak=db∧lJ=.pointer (some ⟨kE,0,none⟩)∧r.ab=o.getD .nil∧r.aK ak∧I [U + 2] w2 ak∧ak.heap[kE]? =some (.cells r.row.toArray 26 (0,0))∧ak.heap[U + 2]? =some (.cells #[F o.isSome] 4 (0,0))∧w2.heap.size≤kE)
 case first=>
  refine wp_region_noPanic ?_;refine rg (S:=fun w'=> w'.cell? ⟨g,r * 2 + 1,none⟩=some (.func (Fn.func td) #[] #[])∧(iK w' U op sa set sc ka kids kc mn mx mode n neg)) (fun _ k=> ⟨k.c ht,k.c ar,k.c c1,k.c c2,k.c an,k.c av,k.c ay,k.c ax,k.c az⟩) fun bM aF=> ?_;refine ag 0 ?_;refine ag 1 ?_;refine ag 2 ?_;refine ag 3 ?_;refine ag 4 ?_;refine ag 5 ?_;refine kX 6 10 (fun ai af=> ?_) fun ai af=> ?_
  ·go_simp;refine Calls.mono (mE.o _ (aU.o.drew)) ?_;rintro e w3 ⟨ae,rfl,a7,aT,aP,hqf⟩;have aR:=C (((I.refl [] w2).drew).trans aP);have dK:=C a7;have dA:=C aT;have et:=C hqf;obtain ⟨q0,bN⟩:∃ q0,q0=ae:=⟨_,rfl⟩;rw [←bN] at dK dA et;have dt:=C bN;obtain ⟨bA,bB,bC,bD,bs,bt,bu,bo,bx,bw,bp,bz⟩:=ae;simp only [MRe.val];have oE:=heap_alloc_new w3 cO;have eS:=C (aR.o.trans (I.a1 w3 cO));obtain ⟨z0,z1,z2,z3,z4,z5,b9,cc⟩:=eR oE;have cj:=h6 oE;have uG:=C oE;clear aP a7 aT hqf bN oE;refine af.out _ _ (bM.o _ aR.o) fun aF=> ?_;clear af ai;try go_frame
   refine ag 7 ?_;refine ag 8 ?_;refine ag 9 ?_;refine bh 10 fun ai af=> ?_;go_simp;refine af.out _ _ (bM.o _ eS.o) fun aF=> ?_;clear af ai;try go_frame
   refine bh 11 fun ai af=> ?_;go_simp;have dG:=C (aR.o.trans (I.a1 w3 (bf bA bB bD bC bs bu bt bo bx bw bp bz)));have tI:=C (dG.o.h kS.o);have b0:=cell_of_row tI.o;have vM:=h6 tI.o;clear z0 z1 z2 z3 z4 z5 b9 cc cj;refine af.out _ _ (bM.o _ dG.o) fun aF=> ?_;clear af ai;try go_frame
   refine bh 12 fun ai af=> ?_;go_simp;have c3:=(I.refl [U + 2] (w3.alloc (bf bA bB bD bC bs bu bt bo bx bw bp bz))).setCell (p:=⟨U + 1 + 1,0,none⟩) (.inl (by simp)) (F o.isSome);have bk:=C c3;have lY:=C ((dG.o.mono (S':=[U + 2]) (by simp)).trans c3);clear c3 b0 vM;refine af.out _ _ (⟨lY.o.cell ht (by have:=uC.o;simp;omega),lY.o.c ar,lY.o.c c1,lY.o.c c2,lY.o.c an,lY.o.c av,lY.o.c ay,lY.o.c ax,lY.o.c az⟩) (fun aF=> ?_);clear af ai;try go_frame
   refine dR ?_;refine NoPanic.normal ?_;go_wp2;go_meet;have gn:=j3.o;have kW:=aR.o.size;refine ⟨w3.heap.size,q0,_,rfl,rfl,dK.o,(dA.o.ah (I.a1 w3 _)).bG bk.o fun x hx=> ?_,lY.o,?_,heap_setCell_same _ (U + 1 + 1) 0 _ _ _ tI.o,kW⟩
   ·rcases et.o x hx with h | h
    ·have:=eU.o x h;have:=aB.o;simp;omega
    ·have:w2.heap.size≤x:=h;simp;omega
   ·rw [dt.o];exact bk.o.heap (heap_alloc_new w3 _) (by simp;omega)
  ·go_simp;have eS:=C (((I.refl [] w2).drew).alloc cO);refine af.out _ _ (bM.o _ eS.o) fun aF=> ?_;clear af ai;try go_frame
   refine bh 6 fun ai af=> ?_;go_simp;refine Calls.mono (mE.o _ ((aU.o.drew).alloc _)) ?_;rintro e w3 ⟨ae,rfl,a7,aT,aP,hqf⟩;have aR:=C (eS.o.trans aP);have dK:=C a7;have dA:=C aT;have et:=C hqf;obtain ⟨q0,bN⟩:∃ q0,q0=ae:=⟨_,rfl⟩;rw [←bN] at dK dA et;have dt:=C bN;obtain ⟨bA,bB,bC,bD,bs,bt,bu,bo,bx,bw,bp,bz⟩:=ae;simp only [MRe.val];have oE:=aP.heap (heap_alloc_new w2.drew cO) (by simp);have oE:w3.heap[w2.heap.size]? =some cO:=oE;obtain ⟨z0,z1,z2,z3,z4,z5,b9,cc⟩:=eR oE;have cj:=h6 oE;have uG:=C oE;clear aP a7 aT hqf bN oE;refine af.out _ _ (bM.o _ aR.o) fun aF=> ?_;clear af ai;try go_frame
   refine ag 7 ?_;refine ag 8 ?_;refine ag 9 ?_;refine bh 11 fun ai af=> ?_;go_simp;have xY:=jv w3 w2.heap.size (H J bA) (M bB bD.length bC) (M bs bu.length bt) (H J bo) (H J bx) (H J bw) (H J bp) (F bz);have gn:=j3.o;have gu:=C xY;have dG:=C (aR.o.cn xY (by intro x hx;simp at hx;subst hx;exact .inr (Nat.le_refl _)));have tI:=C (dG.o.h kS.o);have b0:=cell_of_row tI.o;have vM:=h6 tI.o;clear z0 z1 z2 z3 z4 z5 b9 cc cj xY;refine af.out _ _ (bM.o _ dG.o) fun aF=> ?_;clear af ai;try go_frame
   refine bh 12 fun ai af=> ?_;go_simp;have c3:=(I.refl [U + 2] (hE w3 w2.heap.size (H J bA) (M bB bD.length bC) (M bs bu.length bt) (H J bo) (H J bx) (H J bw) (H J bp) (F bz))).setCell (p:=⟨U + 1 + 1,0,none⟩) (.inl (by simp)) (F o.isSome);have bk:=C c3;have lY:=C ((dG.o.mono (S':=[U + 2]) (by simp)).trans c3);clear c3 b0 vM;refine af.out _ _ (⟨lY.o.cell ht (by have:=uC.o;simp;omega),lY.o.c ar,lY.o.c c1,lY.o.c c2,lY.o.c an,lY.o.c av,lY.o.c ay,lY.o.c ax,lY.o.c az⟩) (fun aF=> ?_);clear af ai;try go_frame
   refine dR ?_;refine NoPanic.normal ?_;go_wp2;go_meet;have HR:=dA.o.fi;refine ⟨w2.heap.size,q0,_,rfl,rfl,dK.o,(dA.o.bG gu.o fun x hx=> ?_).bG bk.o fun x hx=> ?_,lY.o,?_,heap_setCell_same _ (U + 1 + 1) 0 _ _ _ tI.o,Nat.le_refl _⟩
   ·rcases et.o x hx with h | h
    ·have:=eU.o x h;have:=aB.o;simp;omega
    ·have h:w2.heap.size + 1≤x:=by simpa using h
     simp;omega
   ·rcases et.o x hx with h | h
    ·have:=eU.o x h;have:=aB.o;simp;omega
    ·have h:w2.heap.size + 1≤x:=by simpa using h
     simp;omega
   ·rw [dt.o];exact bk.o.heap (rm uG.o _ _ _ _ _ _ _ _) (by simp;omega)
 case rest=>
  obtain ⟨kE,pd,ak,rfl,rfl,mh,va,dh,uV,yC,fc⟩:=hcut;have mq:=C mh;have BW:=C va;have dG:=C dh;have A6:=C (dh.h ba.o);have tI:=C yC;have c4:=C (aU.o.cn dh (by intro x hx;simp at hx;subst hx;exact .inr (by have:=aB.o;omega)));obtain ⟨gV,TC⟩:∃ gV,gV=pd:=⟨_,rfl⟩;rw [←TC] at mq BW;have WN:=C TC;obtain ⟨bA,bB,bC,bD,bs,bt,bu,bo,bx,bw,bp,bz⟩:=pd;obtain ⟨bK,d1,d2,bL,bO,bT,bU,bV⟩:=eR (v0:=H J bA) (v1:=M bB bD.length bC) (v2:=M bs bu.length bt) (v3:=H J bo) (v4:=H J bx) (v5:=H J bw) (v6:=H J bp) (v7:=F bz) uV;have b0:ak.cell? ⟨U + 1 + 1,0,none⟩=some (F o.isSome):=cell_of_row yC;have vM:∀ o,ak.frozen? ⟨U + 1 + 1,o,none⟩=false:=h6 yC;clear mh va dh uV yC fc TC ar c1 c2 an av ay ax az ht
  cases o with
  | none=>
   have b0:ak.cell? ⟨U + 1 + 1,0,none⟩=some (F false):=b0;obtain ⟨z0,z1,z2,z3,z4,z5,b9,cc,cj⟩:=ew A6.o;go_wp2;refine leaves_cons (f:=44) (args:=#[.pointer (some ⟨U + 1,0,none⟩),.pointer (some ⟨U + 1 + 1,0,none⟩)]) (by simp) (by simp [go_sem]) ?_;refine (Xs ⟨U + 1,0,none⟩ ⟨U + 1 + 1,0,none⟩ _).mono ?_;rintro e U2 jw ⟨rfl,rfl,rfl⟩;have CA:=rm A6.o (H J 0) (M none 0 0) (M none 0 0) (H J 0) (H J 0) (H J 0) (H J 0) (F false);have cU:=jv ak (U + 1) (H J 0) (M none 0 0) (M none 0 0) (H J 0) (H J 0) (H J 0) (H J 0) (F false);have aY:=(heap_setCell_other (hE ak (U + 1) (H J 0) (M none 0 0) (M none 0 0) (H J 0) (H J 0) (H J 0) (H J 0) (F false)) ⟨U + 1 + 1,0,none⟩ (U + 1) (F false) (by simp)).trans CA;have SD:=heap_setCell_same _ (U + 1 + 1) 0 _ 4 (F false) (cU.h tI.o);have gC:=(c4.o.cn cU (by intro x hx;simp at hx;subst hx;exact .inr (by have:=aB.o;omega))).cn ((I.refl [U + 1 + 1] (hE ak (U + 1) (H J 0) (M none 0 0) (M none 0 0) (H J 0) (H J 0) (H J 0) (H J 0) (F false))).setCell (p:=⟨U + 1 + 1,0,none⟩) (.inl (by simp)) (F false)) (by intro x hx;simp at hx;subst hx;exact .inr (by have:=aB.o;omega));refine ⟨_,acZ rfl _ _ (U + 1) 26 #[H J 0,M none 0 0,M none 0 0,H J 0,H J 0,H J 0,H J 0,F false] (0,0) _ rfl aY Tryz.underlying26 rfl mB ⟨U + 1 + 1,0,none⟩ (F false) rfl ?_,?_⟩
   ·have hc:((hE ak (U + 1) (H J 0) (M none 0 0) (M none 0 0) (H J 0) (H J 0) (H J 0) (H J 0) (F false)).setCell ⟨U + 1 + 1,0,none⟩ (F false)).cell? ⟨U + 1 + 1,0,none⟩=some (F false):=by simp only [World.cell?,SD];rfl
    with_reducible exact ac7 hc
   ·exact ⟨MRe.nil,rfl,rfl,MRe.aK.nil _,gC,by intro b ad;simp [MRe.nil,MRe.aw,MRe.dN,df] at ad⟩
  | some t=>
   have b0:ak.cell? ⟨U + 1 + 1,0,none⟩=some (F true):=b0;have sW:=acT gV ak BW.o (by rw [mq.o];exact jE.o t rfl);rw [WN.o] at sW;rw [show (MRe.ab (.node bA bB bC bD bs bt bu bo bx bw bp bz))=gV.ab by rw [WN.o]] at sW;rw [show (.node bA bB bC bD bs bt bu bo bx bw bp bz:MRe).val=.agg #[H J bA,M bB bD.length bC,M bs bu.length bt,H J bo,H J bx,H J bw,H J bp,F bz] from rfl] at sW;have mD:=C sW;clear sW;go_wp2_with fail
   refine Calls.mono mD.o ?_;rintro e fN ⟨p,rfl,j7,hpo,N3,Ak⟩;have c4:=C (c4.o.trans N3);have JA:=C (N3.h A6.o);have yi:=C (N3.h tI.o);obtain ⟨z0,z1,z2,z3,z4,z5,b9,cc,cj⟩:=ew JA.o;have b1:fN.cell? ⟨U + 1 + 1,0,none⟩=some (F true):=cell_of_row yi.o;have apJ:∀ o,fN.frozen? ⟨U + 1 + 1,o,none⟩=false:=h6 yi.o;obtain ⟨fQ,xU⟩:∃ fQ,fQ=p:=⟨_,rfl⟩;rw [←xU] at j7 hpo Ak;have agV:=C xU;have qu:=C j7;have kU:=C hpo;have agW:=C Ak;clear j7 hpo Ak xU N3 b0 vM bK d1 d2 bL bO bT bU bV;obtain ⟨cK,cL,cM,cN,cD,cE,cF,cG,cI,cH,cu,cJ⟩:=p;simp only [MRe.val];go_wp2;refine leaves_cons (f:=44) (args:=#[.pointer (some ⟨U + 1,0,none⟩),.pointer (some ⟨U + 1 + 1,0,none⟩)]) (by simp) (by simp [go_sem]) ?_;refine (Xs ⟨U + 1,0,none⟩ ⟨U + 1 + 1,0,none⟩ _).mono ?_;rintro e U2 jw ⟨rfl,rfl,rfl⟩;have CA:=rm JA.o (H J cK) (M cL cN.length cM) (M cD cF.length cE) (H J cG) (H J cI) (H J cH) (H J cu) (F cJ);have cU:=jv fN (U + 1) (H J cK) (M cL cN.length cM) (M cD cF.length cE) (H J cG) (H J cI) (H J cH) (H J cu) (F cJ);have aY:=(heap_setCell_other (hE fN (U + 1) (H J cK) (M cL cN.length cM) (M cD cF.length cE) (H J cG) (H J cI) (H J cH) (H J cu) (F cJ)) ⟨U + 1 + 1,0,none⟩ (U + 1) (F true) (by simp)).trans CA;have SD:=heap_setCell_same _ (U + 1 + 1) 0 _ 4 (F true) (cU.h yi.o);have gC:=(c4.o.cn cU (by intro x hx;simp at hx;subst hx;exact .inr (by have:=aB.o;omega))).cn ((I.refl [U + 1 + 1] (hE fN (U + 1) (H J cK) (M cL cN.length cM) (M cD cF.length cE) (H J cG) (H J cI) (H J cH) (H J cu) (F cJ))).setCell (p:=⟨U + 1 + 1,0,none⟩) (.inl (by simp)) (F true)) (by intro x hx;simp at hx;subst hx;exact .inr (by have:=aB.o;omega));refine ⟨_,acZ rfl _ _ (U + 1) 26 #[H J cK,M cL cN.length cM,M cD cF.length cE,H J cG,H J cI,H J cH,H J cu,F cJ] (0,0) _ rfl aY Tryz.underlying26 rfl mB ⟨U + 1 + 1,0,none⟩ (F true) rfl ?_,?_⟩
   ·have hc:((hE fN (U + 1) (H J cK) (M cL cN.length cM) (M cD cF.length cE) (H J cG) (H J cI) (H J cH) (H J cu) (F cJ)).setCell ⟨U + 1 + 1,0,none⟩ (F true)).cell? ⟨U + 1 + 1,0,none⟩=some (F true):=by simp only [World.cell?,SD];rfl
    with_reducible exact ac7 hc
   ·have gn:=j3.o;have F1:=dG.o.size;have KM:=aB.o;have hfr:∀ x∈fQ.aw,w2.heap.size≤x:=fun x hx=> Nat.le_trans F1 (agW.o x hx);refine ⟨fQ,by rw [agV.o];rfl,by rw [qu.o,mq.o],(kU.o.bG cU fun x hx=> ?_).bG ((I.refl [U + 1 + 1] (hE fN (U + 1) (H J cK) (M cL cN.length cM) (M cD cF.length cE) (H J cG) (H J cI) (H J cH) (H J cu) (F cJ))).setCell (p:=⟨U + 1 + 1,0,none⟩) (.inl (by simp)) (F true)) fun x hx=> ?_,gC,fun x hx=> ?_⟩
    ·have:=hfr x hx;simp;omega
    ·have:=hfr x hx;simp;omega
    ·have:=hfr x hx;omega
def hr (w:World) (ao:Option Addr) (xs:List Int):Prop:=0 < xs.length→∃ b off,ao=some ⟨b,off,none⟩∧∀ j,j < xs.length→w.cell? ⟨b,off + j,none⟩=some (H J (xs.getD j 0))
theorem qZ.zj {kb:Nat} {w:World} {b:Nat} {xs:List Int} (h:qZ kb w b xs):hr w (some ⟨b,0,none⟩) xs:=fun _=> ⟨b,0,rfl,fun j c8=> by rw [Nat.zero_add,h.cell j c8];simp [c8]⟩
theorem cr.zj {w:World} {e:Nat} {a:Option Nat} {c:Nat} {xs:List Int} {n:Nat} (h:cr w e 1 a n c (xs.map (H J))):hr w (a.map fun g=> ⟨g,0,none⟩) xs:=fun h0=> by
 cases a with
 | none=> exfalso;have:=h.1;obtain ⟨_,h2,_⟩:=h;simp at this;omega
 | some g=> exact ⟨g,0,rfl,fun j c8=> by rw [Nat.zero_add,h.cell j (by simpa using c8)];simp [c8]⟩
theorem hr.drewN {w:World} {ao:Option Addr} {xs:List Int} (h:hr w ao xs) (n:Nat):hr (w.drewN n) ao xs:=h
def nD (x n:Int):Int:=(if x < 0 then -(x + 1) else x) % n
theorem uP (x n:Int) (hn:0 < n):0≤nD x n∧nD x n < n:=by
 unfold nD;exact ⟨Int.emod_nonneg _ (by omega),Int.emod_lt_of_pos _ hn⟩
theorem tS (x n:Int) (w:World) (hn:0 < n) (hx:-9223372036854775808≤x∧x≤9223372036854775807):
  Calls Tryz.prog 14 #[H J x,H J n] w fun e w'=> e=.returned (H J (nD x n))∧w=w':=by
 obtain ⟨r,aO⟩:∃ r,r=nD x n:=⟨_,rfl⟩;rw [←aO];have aD:=C aO;clear aO;obtain ⟨dv,dI⟩:=hx
 by_cases h:x < 0
 ·go_enter Tryz.func14,Tryz.ntmps14
  go_wp2;go_ret;refine ⟨?_,rfl⟩;rw [aD.o,nD,if_pos h]
  show Ending.returned (H J (-(x + 1).tmod n))=_
  rw [←Int.neg_tmod,Int.tmod_eq_emod_of_nonneg (by omega)]
 ·go_enter Tryz.func14,Tryz.ntmps14
  go_wp2;go_ret;exact ⟨by rw [aD.o,nD,if_neg (by omega)];rfl,rfl⟩
def np (x:Int):Prop:= -9223372036854775808≤x∧x≤9223372036854775807
theorem i64_of_wf {x:Int} (h:(Lit.int .i64 x).wf=true):np x:=by
 simp [Lit.wf] at h;have e:IntKind.i64.min= -9223372036854775808:=rfl;rw [e] at h;exact h
theorem in_of_row {w:World} {a:Option Addr} {len cap:Nat} {bR:List Int}
  (h:(a=none∧len=0∧cap=0∧bR=[])∨∃ x,a=some x∧len≤cap∧cap≤maxLen∧bR.length=cap∧(∀ i,i < bR.length→w.cell? (x.add i)=some (H J (bR.getD i 0)))∧∀ n∈bR,(Lit.int .i64 n).wf=true):
  (bR.take len).length=len∧hr w a (bR.take len)∧(∀ x∈bR.take len,np x)∧len≤9223372036854775807:=by
 rcases h with ⟨rfl,rfl,rfl,rfl⟩ | ⟨x,rfl,hl,hm,aW,hc,h9⟩
 ·exact ⟨rfl,fun h=> by simp at h,by simp,by omega⟩
 ·refine ⟨by simp;omega,fun h0=> ?_,fun y hy=> i64_of_wf (h9 y (List.mem_of_mem_take hy)),by unfold maxLen at hm;omega⟩;simp at h0;have h1:=hc 0 (by omega);obtain ⟨b,off,ib⟩:=x;have hs:ib=none:=by
   cases ib with
   | none=> rfl
   | some s=> simp [Addr.add,World.cell?] at h1;split at h1 <;> simp at h1
  subst hs;refine ⟨b,off,rfl,fun j c8=> ?_⟩;simp at c8;have h2:=hc j (by omega);have SH:(⟨b,off,none⟩:Addr).add j=⟨b,off + j,none⟩:=by unfold Addr.add;split <;> simp_all
  rw [SH] at h2;have tu:j < bR.length:=by omega
  rw [h2];simp [c8,tu]
theorem lZ.Fe:∀ {l:List (Int × Int)},lZ l→∀ i (h:i < l.length),0≤l[i].1∧l[i].1≤l[i].2∧l[i].2≤1114111
 | [],_,i,h=> by simp at h
 | [s],hs,i,h=> by
  have:i=0:=by simpa using h
  subst this;exact hs
 | s::t::r,hs,i,h=> by
  obtain ⟨h1,h2,h3,h4⟩:=hs
  cases i with
  | zero=>
   have:=lZ.Fe h4 0 (by simp)
   simp only [List.getElem_cons_zero] at this ⊢;exact ⟨h1,h2,by omega⟩
  | succ i=> exact lZ.Fe h4 i (by simpa using h)
theorem lZ.XY:∀ {l:List (Int × Int)},lZ l→∀ i (h:i + 1 < l.length),l[i].2 + 2≤l[i + 1].1
 | [],_,i,h=> by simp at h
 | [s],hs,i,h=> by simp at h
 | s::t::r,hs,i,h=> by
  obtain ⟨h1,h2,h3,h4⟩:=hs
  cases i with
  | zero=> exact h3
  | succ i=> exact lZ.XY h4 i (by simpa using h)
theorem ana (lo hi:Int) (w:World) (h1:0≤lo) (h2:lo≤hi) (h3:hi≤1114111):
  Calls Tryz.prog 152 #[.agg #[H J lo,H J hi]] w fun e w'=> e=.returned (F true)∧I [] w w':=by
 go_enter Tryz.func152,Tryz.ntmps152
 go_wp2;go_ret;exact ⟨rfl,I.a1 _ _⟩
theorem aiK (g:Nat) (b0 b1:Bool) (c:Nat) (w:World) (h0:w.cell? ⟨g,0,none⟩=some (F b0)) (h1:w.cell? ⟨g,1,none⟩=some (F b1)):
  Calls Tryz.prog 145 #[M (some ⟨g,0,none⟩) 2 c] w fun e w'=> e=.returned (F (b0 || b1))∧w'=w:=by
 cases b0
 all_goals
  go_enter Tryz.func145,Tryz.ntmps145
  go_wp2;go_ret;exact ⟨by simp,rfl⟩
theorem alr (a:Option Addr) (n c:Nat) (w:World):
  Calls Tryz.prog 150 #[M a n c] w fun e w'=> (if n≤64 then e=.returned (.tuple #[M a n c,H J 0]) else e=.returned (.tuple #[M none 0 0,H J 4]))∧w'=w:=by
 by_cases h:n≤64
 ·have hi:¬ (64:Int) < (n:Int):=by omega
  simp only [if_pos h];go_enter Tryz.func150,Tryz.ntmps150
  go_wp2
  go_ret2
  exact ⟨rfl,rfl⟩
 ·have hi:(64:Int) < (n:Int):=by omega
  simp only [if_neg h];go_enter Tryz.func150,Tryz.ntmps150
  go_wp2
  go_ret2
  exact ⟨rfl,rfl⟩
theorem ad5 (sa:Option Addr) (sc:Nat) (l:List (Int × Int)) (w:World) (hs:eK w sa sc l) (ds:lZ l) (hn:l.length≤64):
  Calls Tryz.prog 149 #[M sa l.length sc] w fun e w'=> e=.returned (H J 0)∧I [] w w':=by
 have cW:=C hs;have gD:=C ds.Fe;have fe:=C ds.XY;have aqT:¬ (64:Int) < (l.length:Int):=by omega
 clear hs ds;go_enter Tryz.func149,Tryz.ntmps149
 go_wp2
 go_loopw [7] (fun i wr=> ∃ k:Nat,k≤l.length∧i=H J k∧I [] w wr) (fun i _=> l.length - (intOf i).toNat)
 case atStart=> exact ⟨0,Nat.zero_le _,rfl,I.refl _ _⟩
 case round=>
  obtain ⟨k,hk,rfl,ck⟩:=hrel;have b6:=C ck
  by_cases aQ:k < l.length
  ·obtain ⟨b,off,rfl,ad,hx⟩:=(cW.o.ah ck).at_ (by have:=cW.o.le;omega);obtain ⟨dv,dI⟩:=hx k aQ;obtain ⟨cR,eH,iV⟩:=gD.o k aQ;have SZ:∀ (h:0 < k),l[k - 1].2 + 2≤l[k].1:=fun h=> by
    have h2:=fe.o (k - 1) (by omega);have e:k - 1 + 1=k:=by omega
    simp only [e] at h2;exact h2
   have hprev:∀ (h:0 < k),wr.cell? ⟨b,off + (k - 1) * 2 + 1,none⟩=some (H J l[k - 1].2):=fun h=> (hx (k - 1) (by omega)).2;have FT:∀ (h:0 < k),0≤l[k - 1].2∧l[k - 1].2≤1114111:=fun h=> by have:=gD.o (k - 1) (by omega);omega
   obtain ⟨lo,kH⟩:∃ lo,lo=l[k].1:=⟨_,rfl⟩;obtain ⟨hi,ts⟩:∃ hi,hi=l[k].2:=⟨_,rfl⟩;rw [←kH,←ts] at eH;rw [←kH] at dv cR;rw [←ts] at dI iV;simp only [←kH] at SZ;have WQ:=C (fun W=> ana lo hi W cR eH iV);clear hx ck kH ts;obtain ⟨dJ,lB⟩:∃ dJ,dJ=wr.heap.size:=⟨_,rfl⟩;have aju:∀ o9,(wr.alloc o9).heap.size=dJ + 1:=fun o9=> by rw [lB];simp
   go_upto_region 4 with fail
   obtain ⟨aA,sU⟩:∃ aA,aA=wr.alloc (.cells #[H J lo,H J hi] 86):=⟨_,rfl⟩;have eZ:I [] wr aA:=by rw [sU];exact I.a1 _ _
   have Fw:aA.heap[dJ]? =some (.cells #[H J lo,H J hi] 86 (0,0)):=by rw [sU,lB];exact heap_alloc_new wr _
   have c6:aA.cell? ⟨dJ,0,none⟩=some (H J lo):=by simp [World.cell?,Fw]
   have y1:aA.cell? ⟨dJ,1,none⟩=some (H J hi):=by simp [World.cell?,Fw]
   rw [←sU,←lB];have aZ:=C eZ;clear sU lB aju eZ Fw dv dI
   by_cases h0:k=0
   ·subst h0;refine rg (S:=fun w'=> w'.cell? ⟨dJ,0,none⟩=some (H J lo)∧w'.cell? ⟨dJ,1,none⟩=some (H J hi)) (fun _ k=> ⟨k.c c6,k.c y1⟩) fun bM aF=> ?_;refine ag 0 ?_;refine bh 1 fun ai af=> ?_;go_simp
    go_at_call 152
    refine Calls.mono (WQ.o _) ?_;rintro e w3 ⟨rfl,aP⟩;have aR:=C (((I.refl [] aA).drew).trans aP);clear aP;refine af.out _ _ (bM.o _ aR.o) fun aF=> ?_;clear af ai;try go_frame
    refine ag 2 ?_;refine ag 3 ?_;refine ag 4 ?_;refine ag 5 ?_;refine ag 6 ?_;refine c9 7 ?_;refine c9 8 ?_;refine c9 9 ?_;refine c9 10 ?_;refine c9 11 ?_;refine c9 12 ?_;refine c9 13 ?_;refine c9 14 ?_;refine c9 15 ?_;refine c9 16 ?_;refine ag 17 ?_;refine ag 18 ?_;refine dR ?_;have kl:=C ((b6.o.trans aZ.o).trans aR.o);clear c6 y1 aF;go_wp2;go_roundw
    case rel=> exact ⟨1,by omega,rfl,kl.o⟩
    case measure=> simp [intOf];omega
   ·have je:0 < k:=by omega
    have hg:=SZ je;have fQ:=aZ.o.cell (hprev je) (by simp);obtain ⟨q1,q2⟩:=FT je;obtain ⟨z,aW⟩:∃ z,z=l[k - 1].2:=⟨_,rfl⟩;rw [←aW] at hg fQ q1 q2;have aqz:(0:Int) < (k:Int):=by omega
    have aqD:(1:Int)≤(k:Int):=by omega
    have mN:IntKind.i64.wrap ((k:Int) - 1)=(k:Int) - 1:=IntWalk.i64_in _ (by have h1:=cW.o.le;have h2:=cW.o.cap;unfold maxLen at h2;omega);have CC:IntKind.i64.wrap (z + 2)=z + 2:=IntWalk.i64_in _ (by omega);have gg:(0:Int)≤(k:Int) - 1:=by omega
    have iR:(k:Int) - 1 < (l.length:Int):=by omega
    have xJ:((k:Int) - 1).toNat=k - 1:=by omega
    have eC:¬ lo < z + 2:=by omega
    clear SZ hprev FT aW hg;refine rg (S:=fun w'=> (w'.cell? ⟨dJ,0,none⟩=some (H J lo)∧w'.cell? ⟨dJ,1,none⟩=some (H J hi))∧w'.cell? ⟨b,off + (k - 1) * 2 + 1,none⟩=some (H J z)) (fun _ k=> ⟨⟨k.c c6,k.c y1⟩,k.c fQ⟩) fun bM aF=> ?_;refine ag 0 ?_;refine bh 1 fun ai af=> ?_;go_simp
    go_at_call 152
    refine Calls.mono (WQ.o _) ?_;rintro e w3 ⟨rfl,aP⟩;have aR:=C (((I.refl [] aA).drew).trans aP);clear aP;refine af.out _ _ (bM.o _ aR.o) fun aF=> ?_;clear af ai;try go_frame
    refine ag 2 ?_;refine ag 3 ?_;refine ag 4 ?_;refine ag 5 ?_;refine ag 6 ?_;refine ag 7 ?_;refine ag 8 ?_;refine ag 9 ?_;refine ag 10 ?_;refine ag 11 ?_;refine ag 12 ?_;refine ag 13 ?_;refine ag 14 ?_;refine ag 15 ?_;refine ag 16 ?_;refine ag 17 ?_;refine ag 18 ?_;refine dR ?_;have kl:=C ((b6.o.trans aZ.o).trans aR.o);clear c6 y1 aF fQ;go_wp2;go_roundw
    case rel=> exact ⟨k + 1,by omega,by go_num,kl.o⟩
    case measure=> simp [intOf];omega
  ·obtain rfl:k=l.length:=by omega
   clear ck;go_wp2;go_ret;exact ⟨rfl,b6.o⟩
theorem cr.GA {w:World} {e size g n c:Nat} {xs:List Value} (h:cr w e size (some g) n c xs) (i:Nat) (v:Value):cr (w.setCell ⟨g,i,none⟩ v) e size (some g) n c (xs.set i v):=by
 obtain ⟨h1,cur,h2,h3,h4,h5,eW⟩:=h;refine ⟨by simpa using h1,_,heap_setCell_same w g i _ e v h2,h3,h4,by simpa using h5,?_⟩;subst eW;simp [List.take_set]
def qw (l:List (Int × Int)) (s:Int × Int):List (Int × Int):=
 match l.getLast? with
 | none=> [s]
 | some z=> if s.1≤z.2 + 1 then l.dropLast ++ [(z.1,max z.2 s.2)] else l ++ [s]
theorem Nh (s:Int × Int):qw [] s=[s]:=rfl
theorem JT (l:List (Int × Int)) (z s:Int × Int) (h:s.1≤z.2 + 1):qw (l ++ [z]) s=l ++ [(z.1,max z.2 s.2)]:=by
 simp [qw,h]
theorem JU (l:List (Int × Int)) (z s:Int × Int) (h:¬ s.1≤z.2 + 1):qw (l ++ [z]) s=(l ++ [z]) ++ [s]:=by
 simp [qw,h]
theorem R1 (l:List (Int × Int)) (z:Int × Int) (pS:Int):(gU (l ++ [z])).set (l.length * 2 + 1) (H J pS)=gU (l ++ [(z.1,pS)]):=by
 rw [Dx,Dx,←zL];rw [List.set_append_right _ _ (by omega)];simp [gU]
def aef (w:World) (a:Option Nat) (r:List (Int × Int)) (e:Ending) (w':World):Prop:=
 ∃ g c',e=.returned (M (some ⟨g,0,none⟩) r.length c')∧cr w' 86 2 (some g) r.length c' (gU r)∧I a.toList w w'∧(a=some g∨w.heap.size≤g)
theorem ahK (a:Option Nat) (c:Nat) (l:List (Int × Int)) (lo hi:Int) (w:World) (hs:cr w 86 2 a l.length c (gU l)) (ad:∀ z∈l,-10≤z.2∧z.2≤10000000) (hl:l.length≤100000):
  Calls Tryz.prog 155 #[de a l.length c,.agg #[H J lo,H J hi]] w (aef w a (qw l (lo,hi))):=by
 obtain ⟨gq,kn,dQ,fj,eI⟩:=info_parts OD;have gH:=C kn;have gI:=C dQ;have gJ:=C fj;have gK:=C eI;clear kn dQ fj eI;obtain ⟨dJ,lB⟩:∃ dJ,dJ=w.heap.size:=⟨_,rfl⟩;obtain ⟨aA,sU⟩:∃ aA,aA=w.alloc (.cells #[H J lo,H J hi] 86):=⟨_,rfl⟩;have eZ:I [] w aA:=by rw [sU];exact I.a1 _ _
 have Fw:aA.heap[dJ]? =some (.cells #[H J lo,H J hi] 86 (0,0)):=by rw [sU,lB];exact heap_alloc_new w _
 have c6:aA.cell? ⟨dJ,0,none⟩=some (H J lo):=by simp [World.cell?,Fw]
 have y1:aA.cell? ⟨dJ,1,none⟩=some (H J hi):=by simp [World.cell?,Fw]
 have oO:=C sU;have bI:=C lB;have aZ:=C eZ;have cW:=C (hs.ah eZ (by simp));have Jf:=C (fun (g:Nat) (h:a=some g)=> (by subst h;exact hs.lt:g < w.heap.size));clear sU lB eZ Fw hs;obtain rfl | ⟨ll,z,N5⟩:=List.eq_nil_or_concat l
 ·rw [Nh];simp only [de,List.length_nil] at cW ⊢;go_enter Tryz.func155,Tryz.ntmps155
  go_upto_region 2 with fail
  rw [←oO.o,←bI.o];refine rg (S:=fun w'=> w'.cell? ⟨dJ,0,none⟩=some (H J lo)) (fun _ k=> k.c c6) fun bM aF=> ?_;refine ag 0 ?_;refine ag 1 ?_;refine ag 2 ?_;refine c9 3 ?_;refine c9 4 ?_;refine c9 5 ?_;refine c9 6 ?_;refine c9 7 ?_;refine c9 8 ?_;refine c9 9 ?_;refine c9 10 ?_;refine c9 11 ?_;refine c9 12 ?_;refine ag 13 ?_;refine dR ?_
  go_wp2_with (at_builtin;refine yb rfl (.tmp 37) (.tmp 39) 23 rfl 86 gq _ 2 16 Tryz.underlying23 gH.o gI.o gJ.o gK.o rfl (by decide) a 0 c [] rfl ((cW.o.drewN 1).alloc _) ⟨aA.heap.size,0,none⟩ 1 1 [H J lo,H J hi] rfl rfl ?hnews ?hone (by decide) (by omega) (by omega) ?hk)
  case hnews=> exact x4 _ _ _ _ rfl
  case hone=> intro u cy;simp at cy;rcases cy with rfl | rfl <;> rfl
  case hk=>
   intro g c2 w2 dd hk2 hg;have hU:=C dd;have aU:=C ((((aZ.o.drew).alloc _).mono (by simp)).trans hk2);have fe:=C hg;clear dd hk2 hg c6 y1 aF;go_wp2;go_ret;exact ⟨g,c2,rfl,hU.o,aU.o,by
    rcases fe.o with h | h
    ·exact .inl h
    ·exact .inr (by have h:aA.heap.size + 1≤g:=h;have:=aZ.o.size;omega)⟩
 ·rw [List.concat_eq_append] at N5;subst N5
  cases a with
  | none=>
   have:=cW.o.2.1
   simp at this
  | some g=>
   obtain ⟨p,ae⟩:=z;obtain ⟨n,hn⟩:∃ n,n=(ll ++ [(p,ae)]).length:=⟨_,rfl⟩;have hB:n=ll.length + 1:=by rw [hn];simp
   have hq:=ad (p,ae) (by simp);simp only at hq;have sm:=cW.o.lt;have aqe:dJ < aA.heap.size:=World.block_lt_of_cell? aA _ c6;have aqq:g≠dJ:=fun h=> by have:=Jf.o g rfl;have:=bI.o;omega
   have Lj:=cW.o.cell ((n - 1) * 2 + 1) (by rw [zL,←hn];omega);have da:=(Kd (ll ++ [(p,ae)]) (n - 1) (by rw [←hn];omega)).2;have hx:aA.cell? ⟨g,(n - 1) * 2 + 1,none⟩=some (H J ae):=by
    rw [Lj];rw [List.getElem?_eq_getElem (by rw [zL,←hn];omega)] at da;rw [da];simp [hB]
   have DN:=cW.o.fz ((n - 1) * 2 + 1);rw [←hn] at cW ⊢;have iC:(0:Int) < (n:Int):=by omega
   have aqQ:0 < n:=by omega
   have mN:IntKind.i64.wrap ((n:Int) - 1)=(n:Int) - 1:=IntWalk.i64_in _ (by omega);have CC:IntKind.i64.wrap (ae + 1)=ae + 1:=IntWalk.i64_in _ (by omega);have gg:(1:Int)≤(n:Int):=by omega
   have iR:(n:Int) - 1 < (n:Int):=by omega
   have xJ:((n:Int) - 1).toNat=n - 1:=by omega
   have dP:=C hn;have r2:=C hB;have aqU:n≤100000:=by rw [hn];exact hl
   clear Lj da hq ad hn hB hl;simp only [de,Option.map_some]
   by_cases fc:lo≤ae + 1
   ·have aY:=JT ll (p,ae) (lo,hi) fc;have aD:=C aY;clear aY;go_enter Tryz.func155,Tryz.ntmps155
    go_upto_region 2 with fail
    rw [←oO.o,←bI.o];refine rg (S:=fun w'=> w'.cell? ⟨dJ,0,none⟩=some (H J lo)∧w'.cell? ⟨g,(n - 1) * 2 + 1,none⟩=some (H J ae)) (fun _ k=> ⟨k.c c6,k.c hx⟩) fun bM aF=> ?_;refine ag 0 ?_;refine ag 1 ?_;refine ag 2 ?_;refine ag 3 ?_;refine ag 4 ?_;refine ag 5 ?_;refine ag 6 ?_;refine ag 7 ?_;refine ag 8 ?_;refine ag 9 ?_;refine ag 10 ?_;refine ag 11 ?_;refine ag 12 ?_;refine ag 13 ?_;refine dR ?_;clear aF;go_upto_region 3 with fail
    refine rg (S:=fun w'=> w'.cell? ⟨dJ,1,none⟩=some (H J hi)) (fun _ k=> k.c y1) fun bM aF=> ?_;refine ag 0 ?_;refine ag 1 ?_;refine ag 2 ?_;refine ag 3 ?_;refine ag 4 ?_;refine ag 5 ?_;refine ag 6 ?_;refine ag 7 ?_;refine ag 9 ?_;refine ag 10 ?_;refine bh 8 fun ai af=> ?_;go_simp;refine af.out _ _ (y1) (fun aF=> ?_);clear af ai;try go_frame
    by_cases hm:ae < hi
    ·have qD:max ae hi=hi:=by omega
     refine ag 11 ?_;refine ag 12 ?_;refine ag 13 ?_;refine bh 14 fun ai af=> ?_;go_simp;refine af.out _ _ (((((I.refl [g] aA).setCell (p:=⟨g,(n - 1) * 2 + 1,none⟩) (.inl (by simp)) (H J hi)).drew).drew).cell y1 (by simp;omega)) (fun aF=> ?_);clear af ai;try go_frame
     refine dR ?_;go_wp2;go_ret;refine ⟨g,c,?_,?_,?_,.inl rfl⟩
     ·rw [aD.o]
      show Ending.returned (M (some ⟨g,0,none⟩) n c)=_
      rw [dP.o]
      simp
     ·rw [aD.o];have h:=((cW.o.GA ((n - 1) * 2 + 1) (H J hi)).drewN 1).drewN 1;rw [show n - 1=ll.length by have:=r2.o;omega,R1] at h;rw [show (ll ++ [((p,ae).1,max (p,ae).2 (lo,hi).2)]).length=n by rw [dP.o];simp];rw [show max (p,ae).2 (lo,hi).2=hi by simp only;omega];rw [show n - 1=ll.length by have:=r2.o;omega];exact h
     ·exact (((aZ.o.mono (by simp)).setCell (p:=⟨g,(n - 1) * 2 + 1,none⟩) (.inl (by simp)) _).drew).drew
    ·have qD:max ae hi=ae:=by omega
     refine ag 11 ?_;refine ag 12 ?_;refine ag 13 ?_;refine bh 14 fun ai af=> ?_;go_simp;refine af.out _ _ (((((I.refl [g] aA).setCell (p:=⟨g,(n - 1) * 2 + 1,none⟩) (.inl (by simp)) (H J ae)).drew).drew).cell y1 (by simp;omega)) (fun aF=> ?_);clear af ai;try go_frame
     refine dR ?_;go_wp2;go_ret;refine ⟨g,c,?_,?_,?_,.inl rfl⟩
     ·rw [aD.o]
      show Ending.returned (M (some ⟨g,0,none⟩) n c)=_
      rw [dP.o]
      simp
     ·rw [aD.o];have h:=((cW.o.GA ((n - 1) * 2 + 1) (H J ae)).drewN 1).drewN 1;rw [show n - 1=ll.length by have:=r2.o;omega,R1] at h;rw [show (ll ++ [((p,ae).1,max (p,ae).2 (lo,hi).2)]).length=n by rw [dP.o];simp];rw [show max (p,ae).2 (lo,hi).2=ae by simp only;omega];rw [show n - 1=ll.length by have:=r2.o;omega];exact h
     ·exact (((aZ.o.mono (by simp)).setCell (p:=⟨g,(n - 1) * 2 + 1,none⟩) (.inl (by simp)) _).drew).drew
   ·have aY:=JU ll (p,ae) (lo,hi) fc;have aD:=C aY;clear aY;go_enter Tryz.func155,Tryz.ntmps155
    go_upto_region 2 with fail
    rw [←oO.o,←bI.o];refine rg (S:=fun w'=> w'.cell? ⟨dJ,0,none⟩=some (H J lo)∧w'.cell? ⟨g,(n - 1) * 2 + 1,none⟩=some (H J ae)) (fun _ k=> ⟨k.c c6,k.c hx⟩) fun bM aF=> ?_;refine ag 0 ?_;refine ag 1 ?_;refine ag 2 ?_;refine ag 3 ?_;refine ag 4 ?_;refine ag 5 ?_;refine ag 6 ?_;refine ag 7 ?_;refine ag 8 ?_;refine ag 9 ?_;refine ag 10 ?_;refine ag 11 ?_;refine ag 12 ?_;refine ag 13 ?_;refine dR ?_;clear aF
    go_wp2_with (at_builtin;refine yb rfl (.tmp 37) (.tmp 39) 23 rfl 86 gq _ 2 16 Tryz.underlying23 gH.o gI.o gJ.o gK.o rfl (by decide) (some g) n c _ rfl ((cW.o.drewN 1).alloc _) ⟨aA.heap.size,0,none⟩ 1 1 [H J lo,H J hi] rfl rfl ?hnews2 ?hone2 (by decide) (by omega) (by omega) ?hk2)
    case hone2=> exact ⟨rfl,rfl⟩
    case hk2=>
     intro hv c2 w2 dd hk2 hg;have hU:=C dd;have aU:=C ((((aZ.o.drew).alloc _).mono (by simp)).trans hk2);have fe:=C hg;clear dd hk2 hg c6 y1 hx DN;go_wp2;go_ret;refine ⟨hv,c2,?_,?_,aU.o,?_⟩
     ·rw [aD.o]
      show Ending.returned (M (some ⟨hv,0,none⟩) (n + 1) c2)=_
      rw [dP.o]
      simp
     ·rw [aD.o,Dx]
      have:=hU.o
      rw [show ((ll ++ [(p,ae)]) ++ [(lo,hi)]).length=n + 1 by rw [dP.o];simp];exact this
     ·rcases fe.o with h | h
      ·exact .inl (congrArg some h)
      ·exact .inr (by have h:aA.heap.size + 1≤hv:=h;have:=aZ.o.size;omega)
def anY:Ren where
 f:=fun x=> match x with
  | 189=> 153
  | 125=> 157
  | 257=> 156
  | 128=> 167
  | 129=> 168
  | 294=> 158
  | 295=> 159
  | 296=> 160
  | 297=> 161
  | 298=> 162
  | 299=> 163
  | 216=> 164
  | 300=> 165
  | 301=> 166
  | 328=> 169
  | 329=> 170
  | 330=> 171
  | 331=> 172
  | 332=> 173
  | 215=> 174
  | 343=> 175
  | n=> n
 t:=fun x=> match x with
  | 28=> 22
  | 3=> 3
  | 46=> 148
  | 0=> 0
  | 51=> 157
  | 53=> 159
  | 4=> 4
  | 183=> 151
  | 182=> 150
  | 131=> 119
  | 5=> 5
  | 9=> 9
  | 218=> 160
  | 222=> 164
  | 228=> 167
  | 229=> 130
  | n=> n
 g:=fun n=> n
theorem anX:Lays.n189 Tryz.prog anY where
 mixed:=by kernel_rfl
 f125:=Tryz.func157.trans (congrArg some (by kernel_rfl))
 f128:=Tryz.func167.trans (congrArg some (by kernel_rfl))
 f129:=Tryz.func168.trans (congrArg some (by kernel_rfl))
 f189:=Tryz.func153.trans (congrArg some (by kernel_rfl))
 f215:=Tryz.func174.trans (congrArg some (by kernel_rfl))
 f216:=Tryz.func164.trans (congrArg some (by kernel_rfl))
 f257:=Tryz.func156.trans (congrArg some (by kernel_rfl))
 f294:=Tryz.func158.trans (congrArg some (by kernel_rfl))
 f295:=Tryz.func159.trans (congrArg some (by kernel_rfl))
 f296:=Tryz.func160.trans (congrArg some (by kernel_rfl))
 f297:=Tryz.func161.trans (congrArg some (by kernel_rfl))
 f298:=Tryz.func162.trans (congrArg some (by kernel_rfl))
 f299:=Tryz.func163.trans (congrArg some (by kernel_rfl))
 f300:=Tryz.func165.trans (congrArg some (by kernel_rfl))
 f301:=Tryz.func166.trans (congrArg some (by kernel_rfl))
 f328:=Tryz.func169.trans (congrArg some (by kernel_rfl))
 f329:=Tryz.func170.trans (congrArg some (by kernel_rfl))
 f330:=Tryz.func171.trans (congrArg some (by kernel_rfl))
 f331:=Tryz.func172.trans (congrArg some (by kernel_rfl))
 f332:=Tryz.func173.trans (congrArg some (by kernel_rfl))
 f343:=Tryz.func175.trans (congrArg some (by kernel_rfl))
 t0:=Tryz.underlying0
 a0:=Tryz.isAgg0
 z0:=Tryz.sizeOf0
 v0:=Tryz.zeroValue0
 t3:=Tryz.underlying3
 a3:=Tryz.isAgg3
 z3:=Tryz.sizeOf3
 v3:=Tryz.zeroValue3
 t4:=Tryz.underlying4
 a4:=Tryz.isAgg4
 z4:=Tryz.sizeOf4
 v4:=Tryz.zeroValue4
 t5:=Tryz.underlying5
 a5:=Tryz.isAgg5
 z5:=Tryz.sizeOf5
 v5:=Tryz.zeroValue5
 t9:=Tryz.underlying9
 a9:=Tryz.isAgg9
 z9:=Tryz.sizeOf9
 v9:=Tryz.zeroValue9
 t28:=Tryz.underlying22
 a28:=Tryz.isAgg22
 z28:=Tryz.sizeOf22
 v28:=Tryz.zeroValue22
 t46:=Tryz.underlying148
 a46:=Tryz.isAgg148
 z46:=Tryz.sizeOf148
 v46:=Tryz.zeroValue148
 t51:=Tryz.underlying157
 a51:=Tryz.isAgg157
 z51:=Tryz.sizeOf157
 v51:=Tryz.zeroValue157
 t53:=Tryz.underlying159
 a53:=Tryz.isAgg159
 z53:=Tryz.sizeOf159
 v53:=Tryz.zeroValue159
 t131:=Tryz.underlying119
 a131:=Tryz.isAgg119
 z131:=Tryz.sizeOf119
 v131:=Tryz.zeroValue119
 t182:=Tryz.underlying150
 a182:=Tryz.isAgg150
 z182:=Tryz.sizeOf150
 v182:=Tryz.zeroValue150
 t183:=Tryz.underlying151
 a183:=Tryz.isAgg151
 z183:=Tryz.sizeOf151
 v183:=Tryz.zeroValue151
 t218:=Tryz.underlying160
 a218:=Tryz.isAgg160
 z218:=Tryz.sizeOf160
 v218:=Tryz.zeroValue160
 t222:=Tryz.underlying164
 a222:=Tryz.isAgg164
 z222:=Tryz.sizeOf164
 v222:=Tryz.zeroValue164
 t228:=Tryz.underlying167
 a228:=Tryz.isAgg167
 z228:=Tryz.sizeOf167
 v228:=Tryz.zeroValue167
 t229:=Tryz.underlying130
 a229:=Tryz.isAgg130
 z229:=Tryz.sizeOf130
 v229:=Tryz.zeroValue130
def ait:Ren where
 f:=fun x=> match x with
  | 20=> 154
  | n=> n
 t:=fun x=> match x with
  | 22=> 22
  | 3=> 3
  | 4=> 4
  | 0=> 0
  | n=> n
 g:=fun n=> n
theorem ais:Lays2.n20 Tryz.prog ait where
 mixed:=by kernel_rfl
 f20:=Tryz.func154.trans (congrArg some (by kernel_rfl))
 t0:=Tryz.underlying0
 a0:=Tryz.isAgg0
 z0:=Tryz.sizeOf0
 v0:=Tryz.zeroValue0
 t3:=Tryz.underlying3
 a3:=Tryz.isAgg3
 z3:=Tryz.sizeOf3
 v3:=Tryz.zeroValue3
 t4:=Tryz.underlying4
 a4:=Tryz.isAgg4
 z4:=Tryz.sizeOf4
 v4:=Tryz.zeroValue4
 t22:=Tryz.underlying22
 a22:=Tryz.isAgg22
 z22:=Tryz.sizeOf22
 v22:=Tryz.zeroValue22
 i3:=by kernel_rfl
theorem cr.holds {w:World} {e g n c:Nat} {bR:List Int} (h:cr w e 1 (some g) n c (bR.map (H J))):Holds (H J) w g 0 bR.toArray:=by
 intro j c8;have FC:j < bR.length:=by simpa using c8
 refine ⟨?_,h.fz _⟩
 have:=h.cell j (by simpa using FC)
 rw [Nat.zero_add,this];simp [FC]
theorem amy {w:World} {g:Nat} {cur:Array Value} {e:Nat} {zM:Nat × Nat} (h:w.heap[g]? =some (.cells cur e zM)) (d:Array Int):(putRow (H J) w g 0 d).heap[g]? =some (.cells (putCells (H J) 0 d cur) e zM):=by
 show (w.heap.modify g (onCells (putCells (H J) 0 d)))[g]? =_
 rw [Array.getElem?_modify,if_pos rfl,h]
 rfl
theorem acO (w:World) (g:Nat) (d:Array Int):I [g] w (putRow (H J) w g 0 d):=
 ⟨rfl,rfl,rfl,by simp [putRow,mapBlock],fun k hk hs=> by
  have:¬ g=k:=fun h=> hs (by simp [h])
  simp [putRow,mapBlock,Array.getElem?_modify,this]⟩
theorem Nj (w:World) (n:Nat):I [] w (Sort.ahead w n):=⟨rfl,rfl,rfl,Nat.le_refl _,fun _ _ _=> rfl⟩
theorem X2 (w:World) (os:Array Obj):I [] w (grow w os):=
 ⟨rfl,rfl,rfl,by simp [grow],fun k hk _=> by simp [grow,Array.getElem?_append_left hk]⟩
end Go.Proofs.YtjnlkjlbejelgaaGreat
