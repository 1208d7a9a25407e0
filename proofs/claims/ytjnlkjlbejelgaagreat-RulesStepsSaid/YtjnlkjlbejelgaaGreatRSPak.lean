/- Part of the proof. No condition: every lemma says its own. -/
import Derived.Test.YtjnlkjlbejelgaaGreatRSPaj
namespace Go.Proofs.YtjnlkjlbejelgaaGreat
open Go.RowKit
open Go.Value renaming int→H,slice→M,bool→F
open Go.IntKind renaming i64→J
set_option maxRecDepth 100000
set_option maxHeartbeats 16000000
theorem air (ai:Nat) (aG:Nat) (aa jy:Option Addr) (ac m0:Nat) (w:World) (hl:B4 w aG aa ac [] jy m0 []):
  Calls Tryz.prog 151 #[.func (Fn.func ai) #[] #[],M (some ⟨aG,0,none⟩) 2 2] w fun e w'=> e=.returned (M none 0 0)∧I [] w w':=by
 have jG:=C hl;clear hl;go_enter Tryz.func151,Tryz.ntmps151
 go_wp2
 go_loopw [5,19] (fun v i wr=> ∃ j:Nat,j≤2∧i=H J j∧v=M none 0 0∧I [] w wr) (fun _ i _=> 2 - (intOf i).toNat)
 case atStart=> exact ⟨0,by omega,rfl,rfl,I.refl _ _⟩
 case round=>
  obtain ⟨j,c8,rfl,rfl,jI⟩:=hrel;have jF:=C jI;clear jI
  by_cases aQ:j < 2
  ·obtain ⟨cS,dH,l,zY,dF,FU,l6,hj1,HP⟩:=jG.o.at_ j aQ;have Ag:l=[]:=by rcases HP with h | h <;> exact h
   subst Ag;have hc:=jF.o.c zY;have HS:(j:Int) < 2:=by omega
   simp only [List.length_nil] at hc;clear zY dF FU l6 hj1 HP;go_wp2
   go_loopw [5,25] (fun v i qU=> i=H J 0∧v=M none 0 0∧I [] w qU) (fun _ _ _=> 0)
   case atStart=> exact ⟨rfl,rfl,jF.o⟩
   case round=>
    obtain ⟨rfl,rfl,n8⟩:=hrel;have r1:=C n8;clear n8 hc;go_wp2;go_roundw
    case rel=> exact ⟨j + 1,by omega,by go_num,rfl,r1.o⟩
    case measure=> simp [intOf];omega
  ·obtain rfl:j=2:=by omega
   clear aQ c8;go_wp2_with fail
   refine Calls.mono (an0 _) ?_;rintro e w2 ⟨rfl,rfl⟩;go_wp2_with fail
   refine Calls.mono (aiv _) ?_;rintro e w2 ⟨rfl,rfl⟩;have hA:=OP Tryz.underlying142 abg rfl (by omega);have qD:=OP Tryz.underlying22 T9 rfl (by omega);go_upto_region 16 with fail
   clear hA qD;obtain ⟨aE,hX⟩:∃ aE,aE=(wr.alloc (.cells #[F false,F false] 4)).alloc (.cells #[H J 0,H J 0] 3):=⟨_,rfl⟩;have cq:I [] w aE:=by rw [hX];exact jF.o.trans (I.a2 _ _ _)
   rw [←hX];have j4:=C cq;clear hX cq;go_wp2
   go_loopw [12,13] (fun v i qU=> i=H J 0∧v=M none 0 0∧qU=aE) (fun _ _ _=> 0)
   case atStart=> exact ⟨rfl,rfl,rfl⟩
   case round=>
    obtain ⟨rfl,rfl,rfl⟩:=hrel;go_wp2;go_ret;exact ⟨rfl,j4.o⟩
theorem aio (kp:Bool→Bool→Bool):tn kp [] []=[]:=by
 have h:wS [] []=[]:=by
  have h1:=RJ ((ld ([] ++ [])).mergeSort fun x y=> decide (x≤y));rw [List.length_mergeSort] at h1;exact List.eq_nil_of_length_eq_zero (Nat.le_zero.1 h1)
 unfold tn;rw [h]
 rfl
theorem aip (ai:Nat) (kp:Bool→Bool→Bool) (aG:Nat) (aa jy:Option Addr) (ac m0:Nat) (b7 U:List (Int × Int)) (w:World) (he:n2 ai)
  (ck:∀ (g c:Nat) (b0 b1:Bool) (W:World),W.cell? ⟨g,0,none⟩=some (F b0)→W.cell? ⟨g,1,none⟩=some (F b1)→Calls Tryz.prog ai #[M (some ⟨g,0,none⟩) 2 c] W fun e w'=> e=.returned (F (kp b0 b1))∧w'=W)
  (hl:B4 w aG aa ac b7 jy m0 U) (b8:lZ b7) (ad:lZ U) (hal:b7.length≤64) (hbl:U.length≤64):
  Calls Tryz.prog 151 #[.func (Fn.func ai) #[] #[],M (some ⟨aG,0,none⟩) 2 2] w fun e w'=> ∃ (a:Option Nat) (c:Nat),e=.returned (de a (tn kp b7 U).length c)∧cr w' 86 2 a (tn kp b7 U).length c (gU (tn kp b7 U))∧I [] w w'∧∀ g,a=some g→w.heap.size≤g:=by
 by_cases hne:b7 ++ U=[]
 ·obtain ⟨rfl,rfl⟩:=List.append_eq_nil_iff.1 hne;refine (air ai aG aa jy ac m0 w hl).mono ?_;rintro e w' ⟨rfl,hk⟩;rw [aio];exact ⟨none,0,rfl,cr.nil _ _ _,hk,by simp⟩
 ·exact aiq ai kp aG aa jy ac m0 b7 U w he ck hl b8 ad hal hbl hne
def nv (b7 U:List (Int × Int)):List (Int × Int):=tn (fun a b=> a || b) b7 U
def WX (w:World) (r:List (Int × Int)) (e:Ending) (w':World):Prop:=
 ∃ (a:Option Nat) (c:Nat),(if r.length≤64 then e=.returned (.tuple #[de a r.length c,H J 0]) else e=.returned (.tuple #[M none 0 0,H J 4]))∧cr w' 86 2 a r.length c (gU r)∧I [] w w'∧∀ g,a=some g→w.heap.size≤g
theorem aiO:n2 145:=mf Tryz.func145 (by kernel_rfl) rfl
theorem an2 (aa jy:Option Addr) (ac m0:Nat) (b7 U:List (Int × Int)) (w:World) (c0:eK w aa ac b7) (cT:eK w jy m0 U) (b8:lZ b7) (ad:lZ U) (hal:b7.length≤64) (hbl:U.length≤64):
  Calls Tryz.prog 144 #[M aa b7.length ac,M jy U.length m0,.func (Fn.func 145) #[] #[]] w (WX w (nv b7 U)):=by
 have af7:=C (fun (W:World) (h:I [] w W)=> ad5 aa ac b7 W (c0.ah h) b8 hal);have Jx:=C (fun (W:World) (h:I [] w W)=> ad5 jy m0 U W (cT.ah h) ad hbl);have bI:=C (fun (W:World) (aG:Nat) (h:B4 W aG aa ac b7 jy m0 U)=> aip 145 (fun a b=> a || b) aG aa jy ac m0 b7 U W aiO (fun g c b0 b1 W h0 h1=> aiK g b0 b1 c W h0 h1) h b8 ad hal hbl);have fg:=C c0;have qn:=C cT;clear c0 cT b8 ad hal hbl;go_enter Tryz.func144,Tryz.ntmps144
 go_wp2_with fail
 refine Calls.mono (af7.o _ (I.refl _ _)) ?_;rintro e w2 ⟨rfl,hk2⟩;have aU:=C hk2;clear hk2;go_wp2_with fail
 refine Calls.mono (Jx.o _ aU.o) ?_;rintro e w3 ⟨rfl,aP⟩;have aR:=C (aU.o.trans aP);clear aP;go_wp2_with fail
 refine Calls.mono (bI.o _ w3.heap.size ⟨by simp,by simp,fg.o.ah (aR.o.alloc _),qn.o.ah (aR.o.alloc _)⟩) ?_;rintro e w4 ⟨a,c,rfl,dd,bc,hg⟩;have hU:=C dd;have cl:=C ((aR.o.alloc _).trans bc);have fe:=C (show ∀ g,a=some g→w.heap.size≤g from fun g h=> by have h1:=hg g h;have h2:=(aR.o.alloc (.cells #[M aa b7.length ac,M jy U.length m0] 23)).size;simp at h1 h2;omega);clear dd bc hg;obtain ⟨r,aO⟩:∃ r,r=tn (fun a b=> a || b) b7 U:=⟨_,rfl⟩;have cy:nv b7 U=r:=aO.symm;rw [←aO] at hU ⊢;have lM:=C cy;have Qc:=alr (a.map fun g=> ⟨g,0,none⟩) r.length c w4;have Qc:=C Qc;clear aO cy;go_wp2_with fail
 refine Calls.mono Qc.o ?_;rintro e bS ⟨he,rfl⟩
 by_cases fc:r.length≤64
 ·rw [if_pos fc] at he;subst he;go_wp2
  go_ret2
  rw [lM.o];exact ⟨a,c,by rw [if_pos fc];rfl,hU.o,cl.o,fe.o⟩
 ·rw [if_neg fc] at he;subst he;go_wp2
  go_ret2
  rw [lM.o];exact ⟨a,c,by rw [if_neg fc];rfl,hU.o,cl.o,fe.o⟩
theorem aog (aa jy:Option Addr) (ac m0:Nat) (b7 U:List (Int × Int)) (w:World) (c0:eK w aa ac b7) (cT:eK w jy m0 U) (b8:lZ b7) (ad:lZ U) (hal:b7.length≤64) (hbl:U.length≤64):
  Calls Tryz.prog 124 #[M aa b7.length ac,M jy U.length m0] w (WX w (nv b7 U)):=by
 have eg:=C (an2 aa jy ac m0 b7 U w c0 cT b8 ad hal hbl);obtain ⟨r,aO⟩:∃ r,r=nv b7 U:=⟨_,rfl⟩;rw [←aO] at eg ⊢;clear c0 cT b8 ad hal hbl aO;go_enter Tryz.func124,Tryz.ntmps124
 go_wp2_with fail
 refine Calls.mono eg.o ?_;rintro e w2 ⟨a,c,he,dd,hk,hg⟩;have hU:=C dd;have b6:=C hk;have fe:=C hg;clear dd hk hg eg
 by_cases fc:r.length≤64
 ·rw [if_pos fc] at he;subst he;go_wp2
  go_ret2
  exact ⟨a,c,by rw [if_pos fc];rfl,hU.o,b6.o,fe.o⟩
 ·rw [if_neg fc] at he;subst he;go_wp2
  go_ret2
  exact ⟨a,c,by rw [if_neg fc];rfl,hU.o,b6.o,fe.o⟩
def tc (a b:Tree):Bool:=a.op==1 && (b.op==1 && decide ((nv a.set b.set).length≤64))
def Nc (w:World) (ak:Nat):Prop:=∃ (a:Option Addr) (n c:Nat),w.heap[ak]? =some (.cells #[M a n c] 23 (0,0))
def WY (w:World) (ak lo:Nat) (r:List (Int × Int)):Prop:=∃ (a:Option Nat) (c:Nat),w.heap[ak]? =some (.cells #[de a r.length c] 23 (0,0))∧cr w 86 2 a r.length c (gU r)∧∀ g,a=some g→lo≤g
def Rf (W:World) (ak:Nat) (t1 fu:Tree) (e:Ending) (w':World):Prop:=
 e=.returned (F (tc t1 fu))∧I [ak] W w'∧Nc w' ak∧(tc t1 fu=true→WY w' ak W.heap.size (nv t1.set fu.set))
theorem aoI (m1 m2:MRe) (ak:Nat) (w:World) (aj:m1.aK w) (cV:m2.aK w) (aJ:m1.ab.dE) (cP:m2.ab.dE) (da:Nc w ak):
  Calls Tryz.prog 123 #[m1.val,m2.val,.pointer (some ⟨ak,0,none⟩)] w (Rf w ak m1.ab m2.ab):=by
 obtain ⟨op1,aM,aN,set1,aS,kc1,aq,mn1,aI,mode1,n1,aL⟩:=m1;obtain ⟨op2,cg,cf,bj,ct,kc2,a8,mn2,bY,bX,bn,bZ⟩:=m2;have hT:∀ e w',Rf w ak (.node op1 set1 (MRe.al aq) mn1 aI mode1 n1 aL) (.node op2 bj (MRe.al a8) mn2 bY bX bn bZ) e w'→Rf w ak (MRe.ab (.node op1 aM aN set1 aS kc1 aq mn1 aI mode1 n1 aL)) (MRe.ab (.node op2 cg cf bj ct kc2 a8 mn2 bY bX bn bZ)) e w':=fun _ _ h=> h;refine Calls.mono ?_ hT;have cy:tc (.node op1 set1 (MRe.al aq) mn1 aI mode1 n1 aL) (.node op2 bj (MRe.al a8) mn2 bY bX bn bZ)=(op1==1 && (op2==1 && decide ((nv set1 bj).length≤64))):=rfl;have hs:nv (Tree.set (.node op1 set1 (MRe.al aq) mn1 aI mode1 n1 aL)) (Tree.set (.node op2 bj (MRe.al a8) mn2 bY bX bn bZ))=nv set1 bj:=rfl;simp only [MRe.val];obtain ⟨U,cd⟩:∃ U,U=w.heap.size:=⟨_,rfl⟩;obtain ⟨aA,c5⟩:∃ aA,aA=(w.alloc (bf op1 aM set1 aN aS aq kc1 mn1 aI mode1 n1 aL)).alloc (bf op2 cg bj cf ct a8 kc2 mn2 bY bX bn bZ):=⟨_,rfl⟩;have eZ:I [] w aA:=by rw [c5];exact I.a2 _ _ _
 obtain ⟨ar,c1,c2,an,av,ay,ax,az⟩:aA.cell? ⟨U,0,none⟩=some (H J op1)∧aA.cell? ⟨U,1,none⟩=some (M aM set1.length aN)∧aA.cell? ⟨U,2,none⟩=some (M aS aq.length kc1)∧aA.cell? ⟨U,3,none⟩=some (H J mn1)∧aA.cell? ⟨U,4,none⟩=some (H J aI)∧aA.cell? ⟨U,5,none⟩=some (H J mode1)∧aA.cell? ⟨U,6,none⟩=some (H J n1)∧aA.cell? ⟨U,7,none⟩=some (F aL):=by rw [c5,cd];exact ((fb.box (m:=.node op1 aM aN set1 aS kc1 aq mn1 aI mode1 n1 aL) (cs:=#[H J op1,M aM set1.length aN,M aS aq.length kc1,H J mn1,H J aI,H J mode1,H J n1,F aL]) rfl).ah (I.a1 _ _)).ez
 obtain ⟨bK,d1,d2,bL,bO,bT,bU,bV⟩:aA.cell? ⟨(U+1),0,none⟩=some (H J op2)∧aA.cell? ⟨(U+1),1,none⟩=some (M cg bj.length cf)∧aA.cell? ⟨(U+1),2,none⟩=some (M ct a8.length kc2)∧aA.cell? ⟨(U+1),3,none⟩=some (H J mn2)∧aA.cell? ⟨(U+1),4,none⟩=some (H J bY)∧aA.cell? ⟨(U+1),5,none⟩=some (H J bX)∧aA.cell? ⟨(U+1),6,none⟩=some (H J bn)∧aA.cell? ⟨(U+1),7,none⟩=some (F bZ):=by
  rw [c5,cd];have h:=(fb.box (w:=w.alloc (bf op1 aM set1 aN aS aq kc1 mn1 aI mode1 n1 aL)) (T:=26) (m:=.node op2 cg cf bj ct kc2 a8 mn2 bY bX bn bZ) (cs:=#[H J op2,M cg bj.length cf,M ct a8.length kc2,H J mn2,H J bY,H J bX,H J bn,F bZ]) rfl);rw [show (w.alloc (bf op1 aM set1 aN aS aq kc1 mn1 aI mode1 n1 aL)).heap.size=w.heap.size + 1 by simp] at h;exact h.ez
 have dw:=C c5;have aB:=C cd;have aZ:=C eZ;have lM:=C cy;have V7:=C hs;obtain ⟨a,n,c,da⟩:=da;have en:=C da;have r7:=C aj.nV;have r8:=C cV.nV;have th:=C (kB aJ);have pT:=C (kB cP);clear c5 cd eZ cy hs da aj cV aJ cP hT
 by_cases a1:op1=1
 ·by_cases a2:op2=1
  ·subst a1;subst a2;have QK:=C (aog aM cg aN cf set1 bj aA (r7.o.ah aZ.o) (r8.o.ah aZ.o) (th.o.tx rfl).1 (pT.o.tx rfl).1 (th.o.tx rfl).2 (pT.o.tx rfl).2);obtain ⟨r,aO⟩:∃ r,r=nv set1 bj:=⟨_,rfl⟩;rw [←aO] at QK lM V7;clear aO;go_enter Tryz.func123,Tryz.ntmps123
   go_upto_region 1 with fail
   rw [←dw.o,←aB.o];go_wp2_with fail
   refine Calls.mono QK.o ?_;rintro e w2 ⟨g,c',he,dd,hk2,hg⟩;have hU:=C dd;have aU:=C (aZ.o.trans hk2);have fe:=C (show ∀ x,g=some x→w.heap.size≤x from fun x h=> Nat.le_trans aZ.o.size (hg x h));have De:=C (aU.o.h en.o);have arW:=h6 De.o;have v0:=cell_of_row De.o;clear dd hk2 hg QK ar c1 c2 an av ay ax az bK d1 d2 bL bO bT bU bV
   by_cases fc:r.length≤64
   ·rw [if_pos fc] at he;subst he;simp only [de];go_wp2;go_ret;have eE:=(I.refl [ak] w2).setCell (p:=⟨ak,0,none⟩) (.inl (by simp)) (de g r.length c');refine ⟨by rw [lM.o];simp [fc],(aU.o.mono (by simp)).trans eE,⟨_,_,_,heap_setCell_same w2 ak 0 _ _ _ De.o⟩,fun _=> ?_⟩;rw [V7.o];refine ⟨g,c',heap_setCell_same w2 ak 0 _ _ _ De.o,hU.o.ah eE (fun x hx=> ?_),fe.o⟩;have h1:=fe.o x hx;have h2:=lt_of_block en.o
    simp;omega
   ·rw [if_neg fc] at he;subst he;go_wp2;go_ret;have eE:=(I.refl [ak] w2).setCell (p:=⟨ak,0,none⟩) (.inl (by simp)) (M none 0 0);have hf:tc (.node 1 set1 (MRe.al aq) mn1 aI mode1 n1 aL) (.node 1 bj (MRe.al a8) mn2 bY bX bn bZ)=false:=by rw [lM.o];simp [fc]
    exact ⟨by rw [hf];rfl,(aU.o.mono (by simp)).trans eE,⟨_,_,_,heap_setCell_same w2 ak 0 _ _ _ De.o⟩,fun h=> by rw [hf] at h;cases h⟩
  ·have apC:(op2 !=1)=true:=by simpa using a2
   subst a1;have gj:=C (show tc (.node 1 set1 (MRe.al aq) mn1 aI mode1 n1 aL) (.node op2 bj (MRe.al a8) mn2 bY bX bn bZ)=false by rw [lM.o];simp [a2]);go_enter Tryz.func123,Tryz.ntmps123
   go_upto_region 1 with fail
   rw [←dw.o,←aB.o];go_wp2;go_ret;exact ⟨by rw [gj.o];rfl,aZ.o.mono (by simp),⟨_,_,_,aZ.o.h en.o⟩,fun h=> by rw [gj.o] at h;cases h⟩
 ·have apv:(op1 !=1)=true:=by simpa using a1
  have gj:=C (show tc (.node op1 set1 (MRe.al aq) mn1 aI mode1 n1 aL) (.node op2 bj (MRe.al a8) mn2 bY bX bn bZ)=false by rw [lM.o];simp [a1]);go_enter Tryz.func123,Tryz.ntmps123
  go_upto_region 1 with fail
  rw [←dw.o,←aB.o];go_wp2;go_ret;exact ⟨by rw [gj.o];rfl,aZ.o.mono (by simp),⟨_,_,_,aZ.o.h en.o⟩,fun h=> by rw [gj.o] at h;cases h⟩
theorem aoz (l:List MRe) (i:Nat):(MRe.al l).getD i .nil=(l.getD i MRe.nil).ab:=by
 rw [List.getD_eq_getElem?_getD,List.getD_eq_getElem?_getD,MRe.kP,List.getElem?_map]
 cases l[i]? with
 | none=> rfl
 | some x=> rfl
def AM (t:Tree):Option Tree:=(qa tc 3 t).map fun i=> hF t.op t.kids i (i + 2) [.node 1 (nv (t.kids.getD i .nil).set (t.kids.getD (i + 1) .nil).set) [] 0 0 0 0 false]
theorem ad3 (m:MRe) (w:World) (aj:m.aK w) (aJ:m.ab.dE) (ad:m.ab.bm≤100000):
  Calls Tryz.prog 83 #[m.val] w (dc w m.aw (AM m.ab)):=by
 have HL:n2 123:=mf Tryz.func123 (by kernel_rfl) rfl;obtain ⟨bW,cQ⟩:∃ bW,bW=m:=⟨_,rfl⟩;have eX:=C (fun (W:World) (h:I [] w W) (i:Nat) (cS:Option Addr) (l:MRe)=> GH m i (i + 2) cS 1 [l] W (aj.ah h));have eU:=C aj.fi;have eg:=C (fun (ak:Nat) (tk:World) (hX:I [] w tk) (jB:w.heap.size≤ak) (da:Nc tk ak)=> Uz 123 #[.pointer (some ⟨ak,0,none⟩)] tc 3 m tk
  (fun W=> I [ak] tk W∧Nc W ak) (fun i W=> I [ak] tk W∧WY W ak tk.heap.size (nv (m.kids.getD i MRe.nil).ab.set (m.kids.getD (i + 1) MRe.nil).ab.set)) HL ⟨I.refl _ _,da⟩
  (fun W l5=> (aj.ah hX).bG l5.1 fun b ad=> by have:=aj.fi b ad;simp;omega) (fun _ W l5=> (aj.ah hX).bG l5.1 fun b ad=> by have:=aj.fi b ad;simp;omega)
  (fun W l5=> ⟨l5.1.drew,l5.2⟩) (fun W o l5=> ⟨l5.1.alloc o,by obtain ⟨a,n,c,h⟩:=l5.2;exact ⟨a,n,c,(I.a1 W o).h h⟩⟩)
  (fun i hi W l5=> by
   have cm:=(aj.ah hX).bG l5.1 fun b ad=> (by have:=aj.fi b ad;simp;omega:b ∉ [ak]);have hA:m.kids[i]∈m.kids:=List.getElem_mem _;have qD:m.kids[i + 1]∈m.kids:=List.getElem_mem _;have g1:m.kids.getD i MRe.nil=m.kids[i]:=by simp [List.getD_eq_getElem?_getD,List.getElem?_eq_getElem (show i < m.kids.length by omega)]
   have g2:m.kids.getD (i + 1) MRe.nil=m.kids[i + 1]:=by simp [List.getD_eq_getElem?_getD,List.getElem?_eq_getElem hi]
   have cR:m.kids[i].aK W:=by cases m with | node op sa sc set ka kc kids mn mx mode n neg=> exact cm.dy hA
   have eH:m.kids[i + 1].aK W:=by cases m with | node op sa sc set ka kc kids mn mx mode n neg=> exact cm.dy qD
   have w1:m.kids[i].ab.dE:=by cases m with | node op sa sc set ka kc kids mn mx mode n neg=> exact mS aJ hA
   have w2:m.kids[i + 1].ab.dE:=by cases m with | node op sa sc set ka kc kids mn mx mode n neg=> exact mS aJ qD
   refine Calls.mono (aoI m.kids[i] m.kids[i + 1] ak W cR eH w1 w2 l5.2) ?_;rintro e w' ⟨he,hk,H8,akN⟩;refine ⟨he,fun _=> ⟨l5.1.trans hk,H8⟩,fun h=> ⟨l5.1.trans hk,?_⟩⟩;obtain ⟨a,c,h1,h2,h3⟩:=akN h;rw [g1,g2];exact ⟨a,c,h1,h2,fun g hg=> Nat.le_trans l5.1.size (h3 g hg)⟩))
 have hbk:m.kids.length≤100000:=by
  cases m with
  | node op sa sc set ka kc kids mn mx mode n neg=> exact (lG ad).1
 obtain ⟨op,sa,sc,set,ka,kc,kids,mn,mx,mode,n,neg⟩:=m;obtain ⟨U,aE,aB,c7,bI,ba,cZ,aH⟩:=rS w op sa sc set ka kc kids mn mx mode n neg;have hC:=C cZ;have fY:=C (show kids.length≤100000 from hbk);have vB:=C (kB aJ);have jo:=C cQ;have hT:AM (MRe.ab (.node op sa sc set ka kc kids mn mx mode n neg))=(qa tc 3 (MRe.ab (.node op sa sc set ka kc kids mn mx mode n neg))).map fun i=> hF op (MRe.al kids) i (i + 2) [.node 1 (nv ((MRe.al kids).getD i .nil).set ((MRe.al kids).getD (i + 1) .nil).set) [] 0 0 0 0 false]:=rfl;obtain ⟨j0,hpo⟩:∃ j0,j0=qa tc 3 (MRe.ab (.node op sa sc set ka kc kids mn mx mode n neg)):=⟨_,rfl⟩;rw [←hpo] at eg hT;rw [hT];have vC:=C hpo;clear hT ad aj aJ hbk cQ hpo HL cZ;obtain ⟨ak,cY⟩:∃ ak,ak=aE.heap.size:=⟨_,rfl⟩;obtain ⟨tk,Co⟩:∃ tk,tk=aE.alloc (.cells #[M none 0 0] 23):=⟨_,rfl⟩;have hk1:I [] aE tk:=by rw [Co];exact I.a1 _ _
 have s3:tk.heap[ak]? =some (.cells #[M none 0 0] 23 (0,0)):=by rw [Co,cY];exact heap_alloc_new aE _
 have Jx:=C (show ak < tk.heap.size from lt_of_block s3);have ec:=C hk1;have yw:=C cY;have age:=C Co;have gm:=eg.o ak tk (aH.o.trans hk1) (by rw [cY];exact aH.o.size) ⟨_,_,_,s3⟩;simp only [MRe.val] at gm ⊢;have BR:=C gm;clear cY Co hk1 s3 gm eg;obtain ⟨ar,c1,c2,an,av,ay,ax,az⟩:=bI.o.ez;go_enter Tryz.func83,Tryz.ntmps83
 go_upto_region 1 with fail
 rw [←c7.o,←aB.o];obtain ⟨bK,d1,d2,bL,bO,bT,bU,bV⟩:=ec.o.au ar c1 c2 an av ay ax az;go_upto_region 2 with fail
 rw [←age.o,←yw.o];have m8:∀ (fn:Fn) (first cap:Array Value) (w:World),(Instr.makeFunc fn first cap).run Tryz.prog w=.ok (.func fn first cap) w:=fun _ _ _ _=> rfl;go_wp2_with fail
 refine Calls.mono BR.o ?_;intro e w2 jX;have apn:=C (ec.o.h ba.o);clear ar c1 c2 an av ay ax az
 cases j0 with
 | none=>
  obtain ⟨⟨x,rfl⟩,hk2,_⟩:=jX;have aU:=C (ec.o.cn hk2 (by intro x hx;simp at hx;subst hx;exact .inr (by rw [yw.o];exact Nat.le_refl _)));have aD:=C (show (none:Option Nat).map (fun i=> hF op (MRe.al kids) i (i + 2) [.node 1 (nv ((MRe.al kids).getD i .nil).set ((MRe.al kids).getD (i + 1) .nil).set) [] 0 0 0 0 false])=none from rfl);clear hk2 bK d1 d2 bL bO bT bU bV;obtain ⟨z0,z1,z2,z3,z4,z5,b9,cc,cj,cw,bQ⟩:=gR aB.o aH.o aU.o ba.o;go_wp2;refine rt cw.o ?_;exact dc.dL aD.o rfl bQ.o
 | some i=>
  obtain ⟨rfl,hk2,a,c,m9,dd,hfr⟩:=jX;have aU:=C (ec.o.cn hk2 (by intro x hx;simp at hx;subst hx;exact .inr (by rw [yw.o];exact Nat.le_refl _)));obtain ⟨mL,S5,_⟩:=y8 vC.o.symm;have mL:op=3:=mL;subst mL;have S5:i + 1 < (MRe.al kids).length:=S5;rw [MRe.ee] at S5;obtain ⟨r,aO⟩:∃ r,r=nv (kids.getD i MRe.nil).ab.set (kids.getD (i + 1) MRe.nil).ab.set:=⟨_,rfl⟩;have aY:(some i).map (fun i=> hF 3 (MRe.al kids) i (i + 2) [.node 1 (nv ((MRe.al kids).getD i .nil).set ((MRe.al kids).getD (i + 1) .nil).set) [] 0 0 0 0 false])=some (hF 3 (MRe.al kids) i (i + 2) [.node 1 r [] 0 0 0 0 false]):=by
   simp only [Option.map_some,aoz];rw [aO]
  simp only [MRe.kids] at m9 dd;rw [←aO] at m9 dd;have aD:=C aY;have v0:=cell_of_row m9;simp only [de] at v0;have ahe:=C (eK.we dd);have iP:=C hfr;have aqc:U < ak:=by have h1:=yw.o;have h2:=hC.o;omega
  have mN:IntKind.i64.wrap ((i:Int) + 2)=(i:Int) + 2:=IntWalk.i64_in _ (by have:=fY.o;omega);have ar:=hk2.cell bK (by simp;omega);have c1:=hk2.cell d1 (by simp;omega);have c2:=hk2.cell d2 (by simp;omega);have an:=hk2.cell bL (by simp;omega);have av:=hk2.cell bO (by simp;omega);have ay:=hk2.cell bT (by simp;omega);have ax:=hk2.cell bU (by simp;omega);have az:=hk2.cell bV (by simp;omega);clear aY m9 dd hfr aO hk2 bK d1 d2 bL bO bT bU bV;have iH:=I.a1 w2 (.cells #[H J 1,M (a.map fun g=> ⟨g,0,none⟩) r.length c,M none 0 0,H J 0,H J 0,H J 0,H J 0,F false] 26);have eS:=C iH;have agy:=C ((aH.o.trans aU.o).trans iH);have lP:gT (w2.alloc (.cells #[H J 1,M (a.map fun g=> ⟨g,0,none⟩) r.length c,M none 0 0,H J 0,H J 0,H J 0,H J 0,F false] 26)) (some ⟨w2.heap.size,0,none⟩) 1 [(.node 1 (a.map fun g=> ⟨g,0,none⟩) c r none 0 [] 0 0 0 0 false)]:=by
   refine ⟨hH.kq (kids:=[(.node 1 (a.map fun g=> ⟨g,0,none⟩) c r none 0 [] 0 0 0 0 false)]) (heap_alloc_new w2 _) rfl (by simp [maxLen]),fun x hx=> ?_⟩;simp only [List.mem_cons,List.not_mem_nil,or_false] at hx;subst hx;exact .hR (ahe.o.ah iH) (gT.nil _)
  have hs:=eX.o _ agy.o i (some ⟨w2.heap.size,0,none⟩) (.node 1 (a.map fun g=> ⟨g,0,none⟩) c r none 0 [] 0 0 0 0 false) lP (by omega) (by show i + 2≤kids.length;omega) (by show 0 < kids.length;omega) (by show kids.length + 1≤1000000;have:=fY.o;omega);rw [show ((i + 2:Nat):Int)=(i:Int) + 2 by omega,List.length_singleton] at hs;have cW:=C hs;clear hs lP iH;go_wp2_with fail
  refine Calls.mono cW.o ?_;rintro e fN ⟨ae,rfl,a7,aT,cU,hqf⟩;have gu:=C (aU.o.trans (eS.o.trans cU));have dK:=C a7;have dA:=C aT;have et:=C hqf;obtain ⟨q0,bN⟩:∃ q0,q0=ae:=⟨_,rfl⟩;rw [←bN] at dK dA et;have dt:=C bN;clear a7 aT cU hqf bN ar c1 c2 an av ay ax az v0;obtain ⟨bA,bB,bC,bD,bs,bt,bu,bo,bx,bw,bp,bz⟩:=ae;simp only [MRe.val];obtain ⟨z0,z1,z2,z3,z4,z5,b9,cc,cj⟩:=ew (gu.o.h ba.o);go_wp2;have hfr:du (U + 2) (MRe.node 3 sa sc set ka kc kids mn mx mode n neg).aw (.node bA bB bC bD bs bt bu bo bx bw bp bz:MRe).aw:=by
   rw [←dt.o];intro x hx;have h1:=hC.o;have h2:=Jx.o;have h3:=yw.o
   rcases et.o x hx with h | h
   ·rcases List.mem_append.1 h with h | h
    ·exact .inl h
    ·refine .inr ?_;simp only [MRe.dN,MRe.aw,List.append_nil,List.mem_append] at h
     rcases h with h | h
     ·have:=lV.zJ (n:=r.length) (fun g hg=> iP.o g hg) x h
      omega
     ·simp [df] at h
   ·exact .inr (by have:=(aU.o.trans eS.o).size;omega)
  obtain ⟨aY,cm,fy,gB⟩:=nd aB.o aH.o gu.o ba.o (by rw [←dt.o];exact dA.o) hfr eU.o;refine rt aY ?_;exact dc.iI (.node bA bB bC bD bs bt bu bo bx bw bp bz) (by rw [aD.o,←dt.o,dK.o];rfl) rfl cm fy gB
def CM:Tree→Option Tree
 | .node op _ kids mn mx mode _ _=> if op=4∧mn=1∧mx=1∧mode≠2 then some (kids.getD 0 .nil) else none
theorem al3 (m:MRe) (w:World) (aj:m.aK w) (aJ:m.ab.dE):
  Calls Tryz.prog 84 #[m.val] w (dc w m.aw (CM m.ab)):=by
 obtain ⟨R,aC⟩:∃ R,R=CM m.ab:=⟨_,rfl⟩;rw [←aC];obtain ⟨op,sa,sc,set,ka,kc,kids,mn,mx,mode,n,neg⟩:=m;have eC:=kB aJ;obtain ⟨U,aE,aB,c7,bI,ba,cZ,aH⟩:=rS w op sa sc set ka kc kids mn mx mode n neg;have hC:=C cZ;have eU:=C aj.fi;have hj:=C (I.refl [] aE);have dW:=C (show R=if op=4∧mn=1∧mx=1∧mode≠2 then some ((MRe.al kids).getD 0 .nil) else none from aC);simp only [MRe.val];clear aC cZ
 by_cases a1:op=4
 ·by_cases a2:mn=1
  ·by_cases a3:mx=1
   ·by_cases a4:mode=2
    ·have aD:=C (show R=none from dW.o.trans (if_neg (fun h=> h.2.2.2 a4)));subst a1 a2 a3 a4;clear aj aJ eC dW;obtain ⟨ar,c1,c2,an,av,ay,ax,az⟩:=bI.o.ez;go_enter Tryz.func84,Tryz.ntmps84
     go_upto_region 1 with fail
     rw [←c7.o,←aB.o];obtain ⟨z0,z1,z2,z3,z4,z5,b9,cc,cj,cw,bQ⟩:=gR aB.o aH.o hj.o ba.o;go_wp2;refine rt cw.o ?_;exact dc.dL aD.o rfl bQ.o
    ·have lE:kids.length=1:=eC.hone (.inl a1);have l7:0 < kids.length:=by omega
     have hln:(0:Int) < (kids.length:Int):=by omega
     obtain ⟨b1,cR,dq,rfl,iM,hD,jf,hP⟩:=aj.kids.head l7;obtain ⟨r,aO⟩:=oJ hD;have aD:=C (show R=some dq.ab by rw [dW.o,if_pos ⟨a1,a2,a3,a4⟩,aO];rfl);have iP:=C (show du (U + 2) (MRe.node op sa sc set (some ⟨b1,cR,none⟩) kc kids mn mx mode n neg).aw dq.aw from du.rR (mF iM));have ahF:(mode==2)=false:=by simpa using a4
     subst a1 a2 a3;obtain ⟨op1,aM,aN,set1,aS,kc1,aq,mn1,aI,mode1,n1,aL⟩:=dq;have jq:=C hP;have g:=jf.node;obtain ⟨bg,aV,a6,bl,bq,bE,bF,bH⟩:=id g;obtain ⟨bK,d1,d2,bL,bO,bT,bU,bV⟩:=aH.o.au bg aV a6 bl bq bE bF bH;obtain ⟨z0,z1,z2,z3,z4,z5,b9,cc,cj⟩:=ew ba.o;obtain ⟨aY,cm,fy,gB⟩:=nd aB.o aH.o hj.o ba.o (jq.o.ah aH.o) iP.o eU.o;have eo:=C aY;have ey:=C cm;have fS:=C fy;have fT:=C gB;clear g bg aV a6 bl bq bE bF bH iM hD jf hP aO lE aj aJ eC aY cm fy gB dW;obtain ⟨ar,c1,c2,an,av,ay,ax,az⟩:=bI.o.ez;go_enter Tryz.func84,Tryz.ntmps84
     go_upto_region 1 with fail
     rw [←c7.o,←aB.o];go_wp2;refine rt eo.o ?_;exact dc.iI (.node op1 aM aN set1 aS kc1 aq mn1 aI mode1 n1 aL) aD.o rfl ey.o fS.o fT.o
   ·have aD:=C (show R=none from dW.o.trans (if_neg (fun h=> a3 h.2.2.1)));have ad:(mx !=1)=true:=by simpa using a3
    subst a1 a2;clear aj aJ eC dW;obtain ⟨ar,c1,c2,an,av,ay,ax,az⟩:=bI.o.ez;go_enter Tryz.func84,Tryz.ntmps84
    go_upto_region 1 with fail
    rw [←c7.o,←aB.o];obtain ⟨z0,z1,z2,z3,z4,z5,b9,cc,cj,cw,bQ⟩:=gR aB.o aH.o hj.o ba.o;go_wp2;refine rt cw.o ?_;exact dc.dL aD.o rfl bQ.o
  ·have aD:=C (show R=none from dW.o.trans (if_neg (fun h=> a2 h.2.1)));have ad:(mn !=1)=true:=by simpa using a2
   subst a1;clear aj aJ eC dW;obtain ⟨ar,c1,c2,an,av,ay,ax,az⟩:=bI.o.ez;go_enter Tryz.func84,Tryz.ntmps84
   go_upto_region 1 with fail
   rw [←c7.o,←aB.o];obtain ⟨z0,z1,z2,z3,z4,z5,b9,cc,cj,cw,bQ⟩:=gR aB.o aH.o hj.o ba.o;go_wp2;refine rt cw.o ?_;exact dc.dL aD.o rfl bQ.o
 ·have aD:=C (show R=none from dW.o.trans (if_neg (fun h=> a1 h.1)));have ad:(op !=4)=true:=by simpa using a1
  clear aj aJ eC dW;obtain ⟨ar,c1,c2,an,av,ay,ax,az⟩:=bI.o.ez;go_enter Tryz.func84,Tryz.ntmps84
  go_upto_region 1 with fail
  rw [←c7.o,←aB.o];obtain ⟨z0,z1,z2,z3,z4,z5,b9,cc,cj,cw,bQ⟩:=gR aB.o aH.o hj.o ba.o;go_wp2;refine rt cw.o ?_;exact dc.dL aD.o rfl bQ.o
def CJ:Tree→Option Tree
 | .node op _ kids _ _ _ _ _=> if op=9∧kN (kids.getD 0 .nil)=true then some (kids.getD 0 .nil) else none
theorem alv (m:MRe) (w:World) (aj:m.aK w) (aJ:m.ab.dE):
  Calls Tryz.prog 92 #[m.val] w (dc w m.aw (CJ m.ab)):=by
 obtain ⟨R,aC⟩:∃ R,R=CJ m.ab:=⟨_,rfl⟩;rw [←aC];obtain ⟨op,sa,sc,set,ka,kc,kids,mn,mx,mode,n,neg⟩:=m;have eC:=kB aJ;obtain ⟨U,aE,aB,c7,bI,ba,cZ,aH⟩:=rS w op sa sc set ka kc kids mn mx mode n neg;have hC:=C cZ;have eU:=C aj.fi;have hj:=C (I.refl [] aE);replace aC:R=if op=9∧kN ((MRe.al kids).getD 0 .nil)=true then some ((MRe.al kids).getD 0 .nil) else none:=aC;simp only [MRe.val];clear cZ
 by_cases a1:op=9
 ·have lE:kids.length=1:=eC.hone (by simp [a1]);have l7:0 < kids.length:=by omega
  have hln:(0:Int) < (kids.length:Int):=by omega
  obtain ⟨b1,cR,dq,rfl,iM,hD,jf,hP⟩:=aj.kids.head l7;obtain ⟨r,aO⟩:=oJ hD;have hg:(MRe.al kids).getD 0 .nil=dq.ab:=by rw [aO];rfl
  rw [hg] at aC;have cW:=fun W (h:I [] w W)=> adu dq W (hP.ah h) (mS aJ iM);obtain ⟨ae,hq⟩:∃ ae,ae=kN dq.ab:=⟨_,rfl⟩;simp only [←hq] at cW aC;have iP:=C (show du (U + 2) (MRe.node op sa sc set (some ⟨b1,cR,none⟩) kc kids mn mx mode n neg).aw dq.aw from du.rR (mF iM));subst a1
  cases ae with
  | false=>
   have aD:=C (show R=none from aC.trans (if_neg (fun h=> by cases h.2)));clear aC;obtain ⟨op1,aM,aN,set1,aS,kc1,aq,mn1,aI,mode1,n1,aL⟩:=dq;have g:=jf.node;obtain ⟨bg,aV,a6,bl,bq,bE,bF,bH⟩:=id g;obtain ⟨bK,d1,d2,bL,bO,bT,bU,bV⟩:=aH.o.au bg aV a6 bl bq bE bF bH;simp only [MRe.val] at cW;have cW:=C cW;clear g bg aV a6 bl bq bE bF bH iM hD jf hP aO lE aj aJ eC hg hq;obtain ⟨ar,c1,c2,an,av,ay,ax,az⟩:=bI.o.ez;go_enter Tryz.func92,Tryz.ntmps92
   go_upto_region 1 with fail
   rw [←c7.o,←aB.o];go_wp2_with fail
   refine Calls.mono (cW.o _ aH.o) ?_;rintro e w2 ⟨rfl,hk2⟩;have aU:=C hk2;clear hk2;obtain ⟨z0,z1,z2,z3,z4,z5,b9,cc,cj,cw,bQ⟩:=gR aB.o aH.o aU.o ba.o;go_wp2;refine rt cw.o ?_;exact dc.dL aD.o rfl bQ.o
  | true=>
   have aD:=C (show R=some dq.ab from aC.trans (if_pos ⟨rfl,rfl⟩));clear aC;obtain ⟨op1,aM,aN,set1,aS,kc1,aq,mn1,aI,mode1,n1,aL⟩:=dq;have jq:=C hP;have g:=jf.node;obtain ⟨bg,aV,a6,bl,bq,bE,bF,bH⟩:=id g;obtain ⟨bK,d1,d2,bL,bO,bT,bU,bV⟩:=aH.o.au bg aV a6 bl bq bE bF bH;simp only [MRe.val] at cW;have cW:=C cW;clear g bg aV a6 bl bq bE bF bH iM hD jf hP aO lE aj aJ eC hg hq;obtain ⟨ar,c1,c2,an,av,ay,ax,az⟩:=bI.o.ez;go_enter Tryz.func92,Tryz.ntmps92
   go_upto_region 1 with fail
   rw [←c7.o,←aB.o];go_wp2_with fail
   refine Calls.mono (cW.o _ aH.o) ?_;rintro e w2 ⟨rfl,hk2⟩;have aU:=C hk2;obtain ⟨u0,u1,u2,u3,u4,u5,u6,u7⟩:=aU.o.au ar c1 c2 an av ay ax az;obtain ⟨v0,v1,v2,v3,v4,v5,v6,v7⟩:=aU.o.au bK d1 d2 bL bO bT bU bV;obtain ⟨z0,z1,z2,z3,z4,z5,b9,cc,cj⟩:=ew (aU.o.h ba.o);obtain ⟨aY,cm,fy,gB⟩:=nd aB.o aH.o aU.o ba.o (jq.o.ah (aH.o.trans aU.o)) iP.o eU.o;have eo:=C aY;have ey:=C cm;have fS:=C fy;have fT:=C gB;clear hk2 ar c1 c2 an av ay ax az bK d1 d2 bL bO bT bU bV aY cm fy gB;go_wp2;refine rt eo.o ?_;exact dc.iI (.node op1 aM aN set1 aS kc1 aq mn1 aI mode1 n1 aL) aD.o rfl ey.o fS.o fT.o
 ·have aD:=C (show R=none from aC.trans (if_neg (fun h=> a1 h.1)));clear aC;have ad:(op !=9)=true:=by simpa using a1
  clear aj aJ eC;obtain ⟨ar,c1,c2,an,av,ay,ax,az⟩:=bI.o.ez;go_enter Tryz.func92,Tryz.ntmps92
  go_upto_region 1 with fail
  rw [←c7.o,←aB.o];obtain ⟨z0,z1,z2,z3,z4,z5,b9,cc,cj,cw,bQ⟩:=gR aB.o aH.o hj.o ba.o;go_wp2;refine rt cw.o ?_;exact dc.dL aD.o rfl bQ.o
def CW:Tree→Option Tree
 | .node op _ kids _ _ _ _ neg=> if op=7∧neg=false∧s8 (kids.getD 0 .nil)=true∧fA (kids.getD 0 .nil)=true then some .nil else none
theorem aoh (m:MRe) (w:World) (aj:m.aK w) (aJ:m.ab.dE):
  Calls Tryz.prog 91 #[m.val] w (dc w m.aw (CW m.ab)):=by
 obtain ⟨R,aC⟩:∃ R,R=CW m.ab:=⟨_,rfl⟩;rw [←aC];obtain ⟨op,sa,sc,set,ka,kc,kids,mn,mx,mode,n,neg⟩:=m;have eC:=kB aJ;obtain ⟨U,aE,aB,c7,bI,ba,cZ,aH⟩:=rS w op sa sc set ka kc kids mn mx mode n neg;have hC:=C cZ;have eU:=C aj.fi;have hj:=C (I.refl [] aE);replace aC:R=if op=7∧neg=false∧s8 ((MRe.al kids).getD 0 .nil)=true∧fA ((MRe.al kids).getD 0 .nil)=true then some .nil else none:=aC;simp only [MRe.val];clear cZ
 by_cases a1:op=7
 ·cases neg with
  | true=>
   have aD:=C (show R=none from aC.trans (if_neg (fun h=> by cases h.2.1)));clear aC;subst a1;clear aj aJ eC;obtain ⟨ar,c1,c2,an,av,ay,ax,az⟩:=bI.o.ez;go_enter Tryz.func91,Tryz.ntmps91
   go_upto_region 1 with fail
   rw [←c7.o,←aB.o];obtain ⟨z0,z1,z2,z3,z4,z5,b9,cc,cj,cw,bQ⟩:=gR aB.o aH.o hj.o ba.o;go_wp2;refine rt cw.o ?_;exact dc.dL aD.o rfl bQ.o
  | false=>
   have lE:kids.length=1:=eC.hone (by simp [a1]);have l7:0 < kids.length:=by omega
   have hln:(0:Int) < (kids.length:Int):=by omega
   obtain ⟨b1,cR,dq,rfl,iM,hD,jf,hP⟩:=aj.kids.head l7;obtain ⟨r,aO⟩:=oJ hD;have hg:(MRe.al kids).getD 0 .nil=dq.ab:=by rw [aO];rfl
   rw [hg] at aC;have hI:=fun W (h:I [] w W)=> acM dq W (hP.ah h);have hK:=fun W (h:I [] w W)=> Ej dq W (hP.ah h);obtain ⟨p,hp⟩:∃ p,p=s8 dq.ab:=⟨_,rfl⟩;obtain ⟨ae,hq⟩:∃ ae,ae=fA dq.ab:=⟨_,rfl⟩;simp only [←hp] at hI aC;simp only [←hq] at hK aC;subst a1;obtain ⟨op1,aM,aN,set1,aS,kc1,aq,mn1,aI,mode1,n1,aL⟩:=dq;have g:=jf.node;obtain ⟨bg,aV,a6,bl,bq,bE,bF,bH⟩:=id g;obtain ⟨bK,d1,d2,bL,bO,bT,bU,bV⟩:=aH.o.au bg aV a6 bl bq bE bF bH;simp only [MRe.val] at hI hK;have hI:=C hI;have hK:=C hK;clear g bg aV a6 bl bq bE bF bH iM hD jf hP aO lE aj aJ eC hg hp hq;have dW:=C aC;clear aC;obtain ⟨ar,c1,c2,an,av,ay,ax,az⟩:=bI.o.ez;go_enter Tryz.func91,Tryz.ntmps91
   go_upto_region 1 with fail
   rw [←c7.o,←aB.o];go_wp2_with fail
   refine Calls.mono (hI.o _ aH.o) ?_;rintro e w2 ⟨rfl,hk2⟩;have aU:=C hk2;obtain ⟨u0,u1,u2,u3,u4,u5,u6,u7⟩:=aU.o.au ar c1 c2 an av ay ax az;obtain ⟨v0,v1,v2,v3,v4,v5,v6,v7⟩:=aU.o.au bK d1 d2 bL bO bT bU bV;clear hk2 ar c1 c2 an av ay ax az bK d1 d2 bL bO bT bU bV hI
   cases p with
   | false=>
    have aD:=C (show R=none from dW.o.trans (if_neg (fun h=> by cases h.2.2.1)));obtain ⟨z0,z1,z2,z3,z4,z5,b9,cc,cj,cw,bQ⟩:=gR aB.o aH.o aU.o ba.o;go_wp2;refine rt cw.o ?_;exact dc.dL aD.o rfl bQ.o
   | true=>
    go_wp2_with fail
    refine Calls.mono (hK.o _ (aH.o.trans aU.o)) ?_;rintro e w3 ⟨rfl,aP⟩;have aR:=C (aU.o.trans aP);clear aP u0 u1 u2 u3 u4 u5 u6 u7 v0 v1 v2 v3 v4 v5 v6 v7 hK
    cases ae with
    | false=>
     have aD:=C (show R=none from dW.o.trans (if_neg (fun h=> by cases h.2.2.2)));obtain ⟨z0,z1,z2,z3,z4,z5,b9,cc,cj,cw,bQ⟩:=gR aB.o aH.o aR.o ba.o;go_wp2;refine rt cw.o ?_;exact dc.dL aD.o rfl bQ.o
    | true=>
     have aD:=C (show R=some Tree.nil from dW.o.trans (if_pos (by simp)));obtain ⟨z0,z1,z2,z3,z4,z5,b9,cc,cj⟩:=ew (aR.o.h ba.o);obtain ⟨eo,ey,fS,fT⟩:=Ga (nd (op:=0) (sa:=none) (sc:=0) (set:=[]) (ka:=none) (kc:=0) (kids:=[]) (mn:=0) (mx:=0) (mode:=0) (n:=0) (neg:=false) aB.o aH.o aR.o ba.o (MRe.aK.nil _) (show du (U + 2) (MRe.node 7 sa sc set (some ⟨b1,cR,none⟩) kc kids mn mx mode n false).aw MRe.nil.aw from fun x hx=> by simp [MRe.nil,MRe.aw,MRe.dN,df] at hx) eU.o);go_wp2;refine rt eo.o ?_;exact dc.iI MRe.nil aD.o rfl ey.o fS.o fT.o
 ·have aD:=C (show R=none from aC.trans (if_neg (fun h=> a1 h.1)));clear aC;have ad:(op !=7)=true:=by simpa using a1
  clear aj aJ eC;obtain ⟨ar,c1,c2,an,av,ay,ax,az⟩:=bI.o.ez;go_enter Tryz.func91,Tryz.ntmps91
  go_upto_region 1 with fail
  rw [←c7.o,←aB.o];obtain ⟨z0,z1,z2,z3,z4,z5,b9,cc,cj,cw,bQ⟩:=gR aB.o aH.o hj.o ba.o;go_wp2;refine rt cw.o ?_;exact dc.dL aD.o rfl bQ.o
def CN:Tree→Option Tree
 | .node op _ kids _ _ _ _ _=> if op=9∧(kids.getD 0 .nil).op=4∧(kids.getD 0 .nil).mode=0 then some (tY (kids.getD 0 .nil)) else none
end Go.Proofs.YtjnlkjlbejelgaaGreat
