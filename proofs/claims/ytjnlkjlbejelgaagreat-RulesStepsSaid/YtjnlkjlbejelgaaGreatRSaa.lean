/- Part of the proof. No condition: every lemma says its own. -/
import Derived.Test.YtjnlkjlbejelgaaGreatRSPan
namespace Go.Proofs.YtjnlkjlbejelgaaGreat
open Go.RowKit
open Go.Value renaming int→H,slice→M,bool→F
open Go.IntKind renaming i64→J
set_option maxRecDepth 100000
set_option maxHeartbeats 16000000
theorem L9 (m1 m2:MRe) (w:World) (aj:m1.aK w) (cV:m2.aK w) (b1:m1.ab.bm≤100000) (b2:m2.ab.bm≤100000):
  Calls Tryz.prog 95 #[m1.val,m2.val] w fun e w'=> e=.returned (F (iQ m1.ab m2.ab))∧I [] w w':=by
 have jd:=C (fun W (h:I [] w W)=> acU m1 m2 W (aj.ah h) (cV.ah h) b1 b2);obtain ⟨T1,h1⟩:∃ T,T=m1.ab:=⟨_,rfl⟩;obtain ⟨T2,h2⟩:∃ T,T=m2.ab:=⟨_,rfl⟩;rw [←h1,←h2] at jd ⊢;obtain ⟨op1,aM,aN,set1,aS,kc1,aq,mn1,aI,mode1,n1,aL⟩:=m1;obtain ⟨op2,cg,cf,bj,ct,kc2,a8,mn2,bY,bX,bn,bZ⟩:=m2;simp only [MRe.val] at jd ⊢;clear aj cV h1 h2 b1 b2;go_enter Tryz.func95,Tryz.ntmps95
 go_wp2_with fail
 refine Calls.mono (jd.o _ (I.a2 w _ _)) ?_;rintro e w2 ⟨rfl,hk⟩;have b6:=C ((I.a2 w _ _).trans hk);clear hk;go_wp2;go_ret;refine ⟨?_,b6.o⟩;unfold iQ
 by_cases h:ra T1 T2=0
 ·simp [h]
 ·simp [h]
theorem anb (m:MRe) (o:Int) (w:World) (aj:m.aK w):
  Calls Tryz.prog 47 #[m.val,H J o] w fun e w'=> e=.returned (H J (xc (fun k=> k.op==o) m.ab.kids))∧I [] w w':=by
 obtain ⟨p,hp⟩:∃ p:Tree→Bool,p=fun k=> k.op==o:=⟨_,rfl⟩;rw [←hp];obtain ⟨op,sa,sc,set,ka,kc,kids,mn,mx,mode,n,neg⟩:=m;have je:(MRe.ab (.node op sa sc set ka kc kids mn mx mode n neg)).kids=MRe.al kids:=rfl;rw [je];have hcap:=aj.ch.cap;have fc:=aj.ch.le;unfold maxLen at hcap;have b6:=C aj.kids;simp only [MRe.val];obtain ⟨U,aA,ar,c1,c2,an,av,ay,ax,az,dw,aB,aZ⟩:=tD w op sa sc set ka kc kids mn mx mode n neg;have BT:=C hp;clear je aj hp;go_enter Tryz.func47,Tryz.ntmps47
 go_upto_region 1 with fail
 rw [←dw.o,←aB.o];go_wp2
 go_loopw [5] (fun i wr=> ∃ k:Nat,k≤kids.length∧i=H J k∧(∀ x∈(MRe.al kids).take k,p x=false)∧aA=wr) (fun i _=> kids.length - (intOf i).toNat)
 case atStart=> exact ⟨0,Nat.zero_le _,rfl,by simp,rfl⟩
 case round=>
  obtain ⟨k,gC,rfl,fB,rfl⟩:=hrel;have eg:=C fB
  by_cases aQ:k < kids.length
  ·obtain ⟨b,off,rfl,ad,hx⟩:=(b6.o.ah aZ.o).ch.dy (by omega);have eD:=hx k aQ;have i5:k < (MRe.al kids).length:=by rw [MRe.ee];exact aQ
   have qG:=fun h=> abf (p:=p) i5 eg.o h;have hall:=fun h=> Pu (p:=p) i5 eg.o h;rw [kQ kids k aQ] at qG hall;have fx:=C qG;have sz:=C hall
   generalize kids[k]=m at *
   have hq:p m.ab=(m.ab.op==o):=by rw [BT.o]
   obtain ⟨ae,aaB⟩:∃ ae,ae=p m.ab:=⟨_,rfl⟩;rw [←aaB] at fx sz hq;obtain ⟨op1,aM,aN,set1,aS,kc1,aq,mn1,aI,mode1,n1,aL⟩:=m;replace hq:ae=(op1==o):=hq;have g:=eD.node;have bg:=g.ar;clear g eD hx fB aaB qG hall
   by_cases a1:op1=o
   ·subst a1;obtain rfl:ae=true:=by rw [hq];simp
    have hS:=fx.o rfl;have cW:=C hS;have N4:(k:Int) < (kids.length:Int):=by omega
    clear hS hq fx sz;go_wp2;go_ret;exact ⟨by rw [cW.o];rfl,aZ.o⟩
   ·have gg:(op1==o)=false:=by simpa using a1
    obtain rfl:ae=false:=by rw [hq,gg]
    have kR:=C (sz.o rfl);clear hq;go_wp2;go_roundw
    case rel=> exact ⟨k + 1,by omega,by go_num,kR.o,trivial⟩
    case measure=> simp [intOf];omega
  ·obtain rfl:k=kids.length:=by omega
   have h0:xc p (MRe.al kids)= -1:=abe (by rw [←MRe.ee,List.take_length] at fB;exact fB);have ny:=C h0;clear fB h0;go_wp2;go_ret;exact ⟨by rw [ny.o];rfl,aZ.o⟩
theorem aoB {l:List Tree} {k:Nat} {o:Option Nat} (hk:l.length≤k) (h:(oK (l.take k) (l.drop k)).map (· + k)=o):o=none:=by
 rw [List.drop_of_length_le hk] at h;exact h.symm
theorem amH (m:MRe) (w:World) (aj:m.aK w) (ad:m.ab.bm≤100000):
  Calls Tryz.prog 49 #[m.val] w fun e w'=> e=.returned (H J (yU (oK [] m.ab.kids)))∧I [] w w':=by
 obtain ⟨op,sa,sc,set,ka,kc,kids,mn,mx,mode,n,neg⟩:=m;have je:(MRe.ab (.node op sa sc set ka kc kids mn mx mode n neg)).kids=MRe.al kids:=rfl;rw [je];have hcap:=aj.ch.cap;have fc:=aj.ch.le;unfold maxLen at hcap;have b6:=C aj.kids;have nz:=C (lG ad).2.2;simp only [MRe.val];obtain ⟨U,aA,ar,c1,c2,an,av,ay,ax,az,dw,aB,aZ⟩:=tD w op sa sc set ka kc kids mn mx mode n neg;clear je aj ad;go_enter Tryz.func49,Tryz.ntmps49
 go_upto_region 1 with fail
 rw [←dw.o,←aB.o];go_wp2
 go_loopw [3] (fun i wr=> ∃ k:Nat,k≤kids.length∧i=H J k∧(oK ((MRe.al kids).take k) ((MRe.al kids).drop k)).map (· + k)=oK [] (MRe.al kids)∧I [] aA wr) (fun i _=> kids.length - (intOf i).toNat)
 case atStart=> exact ⟨0,Nat.zero_le _,rfl,by rw [List.drop_zero,List.take_zero];cases oK [] (MRe.al kids) <;> rfl,I.refl _ _⟩
 case round=>
  obtain ⟨k,gC,rfl,hl,ck⟩:=hrel;have jG:=C hl;have cX:=C ck;have dp:=ck.c c2;clear hl ck
  by_cases aQ:k < kids.length
  ·have gi:=C (wt kids k aQ);obtain ⟨lK,yS⟩:∃ lK,lK=wr:=⟨_,rfl⟩;have Cv:(k:Int) < (kids.length:Int):=by omega
   go_wp2
   go_loopw [4] (fun i qU=> ∃ j:Nat,j≤k∧i=H J j∧(((MRe.al kids).take j).any fun o=> iQ o (kids[k]'aQ).ab)=false∧I [] aA qU) (fun i _=> k - (intOf i).toNat)
   case atStart=> exact ⟨0,Nat.zero_le _,rfl,by rw [List.take_zero];rfl,cX.o⟩
   case round=>
    obtain ⟨j,hjk,rfl,YQ,n8⟩:=hrel;have kR:=C YQ;have r1:=C n8;have z2:=n8.c c2;clear YQ n8 dp
    by_cases hjlt:j < k
    ·obtain ⟨b,off,rfl,ad,hx⟩:=(b6.o.ah (aZ.o.trans r1.o)).ch.dy (by omega);have TW:=hx j (by omega);have v8:=hx k aQ;have aan:=b6.o.all kids[j] (List.getElem_mem (by omega));have aao:=b6.o.all kids[k] (List.getElem_mem aQ);have gw:=C (fun (W:World) (h:I [] w W)=> L9 (kids[j]'(by omega)) (kids[k]'aQ) W (aan.ah h) (aao.ah h) (nz.o _ (List.getElem_mem (by omega))) (nz.o _ (List.getElem_mem aQ)));have aaU:(MRe.al kids).take (j + 1)=(MRe.al kids).take j ++ [(kids[j]'(by omega)).ab]:=by
      rw [List.take_succ_eq_append_getElem (by rw [MRe.ee];omega),kQ]
     have Aj:iQ (kids[j]'(by omega)).ab (kids[k]'aQ).ab=false→(((MRe.al kids).take (j + 1)).any fun o=> iQ o (kids[k]'aQ).ab)=false:=fun h=> by
      rw [aaU,List.any_append,kR.o,List.any_cons,List.any_nil,h];rfl
     have DO:iQ (kids[j]'(by omega)).ab (kids[k]'aQ).ab=true→(((MRe.al kids).take k).any fun o=> iQ o (kids[k]'aQ).ab)=true:=fun h=> by
      refine List.any_eq_true.2 ⟨(kids[j]'(by omega)).ab,?_,h⟩;have h1:=kQ kids j (by omega);rw [←h1];exact List.mem_take_iff_getElem.2 ⟨j,by rw [MRe.ee];omega,rfl⟩
     obtain ⟨ae,hq⟩:∃ ae,ae=iQ (kids[j]'(by omega)).ab (kids[k]'aQ).ab:=⟨_,rfl⟩;rw [←hq] at Aj DO;simp only [←hq] at gw;have dP:=C Aj;have gj:=C DO;obtain ⟨Um,Tn⟩:∃ Um,Um=(kids[j]'(by omega)):=⟨_,rfl⟩;obtain ⟨mk,oC⟩:∃ mk,mk=(kids[k]'aQ):=⟨_,rfl⟩;rw [←Tn] at TW;rw [←oC] at v8;rw [←Tn,←oC] at gw;clear aaU Aj DO hq Tn oC aan aao hx;obtain ⟨op1,aM,aN,set1,aS,kc1,aq,mn1,aI,mode1,n1,aL⟩:=Um;obtain ⟨op2,cg,cf,bj,ct,kc2,a8,mn2,bY,bX,bn,bZ⟩:=mk;have g:=TW.node;obtain ⟨bg,aV,a6,bl,bq,bE,bF,bH⟩:=id g;clear g;have g:=v8.node;obtain ⟨ep,aJ,cP,eM,eF,eN,eO,eP⟩:=id g;simp only [MRe.val] at gw;have aqw:(j:Int) < (kids.length:Int):=by omega
     have aqx:(j:Int) < (k:Int):=by omega
     have l6:(0:Int)≤(j:Int):=by omega
     have je:(0:Int)≤(k:Int):=by omega
     have aqy:j < kids.length:=by omega
     clear g TW v8;go_wp2;refine rg (S:=fun w'=> w'.cell? ⟨U,2,none⟩=some (M (some ⟨b,off,none⟩) kids.length kc)∧(w'.cell? ⟨b,off + j * 8,none⟩=some (H J op1)∧w'.cell? ⟨b,off + j * 8 + 1,none⟩=some (M aM set1.length aN)∧w'.cell? ⟨b,off + j * 8 + 2,none⟩=some (M aS aq.length kc1)∧w'.cell? ⟨b,off + j * 8 + 3,none⟩=some (H J mn1)∧w'.cell? ⟨b,off + j * 8 + 4,none⟩=some (H J aI)∧w'.cell? ⟨b,off + j * 8 + 5,none⟩=some (H J mode1)∧w'.cell? ⟨b,off + j * 8 + 6,none⟩=some (H J n1)∧w'.cell? ⟨b,off + j * 8 + 7,none⟩=some (F aL))∧(w'.cell? ⟨b,off + k * 8,none⟩=some (H J op2)∧w'.cell? ⟨b,off + k * 8 + 1,none⟩=some (M cg bj.length cf)∧w'.cell? ⟨b,off + k * 8 + 2,none⟩=some (M ct a8.length kc2)∧w'.cell? ⟨b,off + k * 8 + 3,none⟩=some (H J mn2)∧w'.cell? ⟨b,off + k * 8 + 4,none⟩=some (H J bY)∧w'.cell? ⟨b,off + k * 8 + 5,none⟩=some (H J bX)∧w'.cell? ⟨b,off + k * 8 + 6,none⟩=some (H J bn)∧w'.cell? ⟨b,off + k * 8 + 7,none⟩=some (F bZ))) (fun _ k=> ⟨k.c z2,(k.au bg aV a6 bl bq bE bF bH),(k.au ep aJ cP eM eF eN eO eP)⟩) fun bM aF=> ?_;refine ag 0 ?_;refine ag 1 ?_;refine ag 2 ?_;refine ag 3 ?_;refine ag 4 ?_;refine ag 5 ?_;refine ag 6 ?_;refine ag 7 ?_;refine ag 8 ?_;refine ag 9 ?_;refine bh 10 fun ai af=> ?_;go_simp
     go_at_call 95
     refine Calls.mono (gw.o _ ((aZ.o.trans r1.o).drew)) ?_;rintro e w3 ⟨rfl,aP⟩;have k0:=C (((I.refl [] _).drew).trans aP);have aR:=C (r1.o.drew.trans aP);clear aP;refine af.out _ _ (bM.o _ k0.o) fun aF=> ?_;clear af ai;try go_frame
     refine dR ?_;clear bg aV a6 bl bq bE bF bH ep aJ cP eM eF eN eO eP z2 aF
     cases ae with
     | true=>
      have oA:=adX gi.o (gj.o rfl) jG.o;have gD:=C oA;clear oA;go_wp2;go_ret;exact ⟨by rw [gD.o];rfl,aZ.o.trans aR.o⟩
     | false=>
      have ey:=C (dP.o rfl);go_wp2;go_roundw
      case rel=> exact ⟨j + 1,by omega,by go_num,ey.o,aR.o⟩
      case measure=> simp [intOf];omega
    ·obtain rfl:j=k:=by omega
     have eE:=adZ gi.o kR.o jG.o;have fq:=C eE;clear eE z2;go_wp2;go_roundw
     case rel=> exact ⟨j + 1,by omega,by go_num,fq.o,r1.o⟩
     case measure=> simp [intOf];omega
  ·obtain rfl:k=kids.length:=by omega
   have h0:=aoB (by rw [MRe.ee];exact Nat.le_refl _) jG.o;have ny:=C h0;clear h0;go_wp2;go_ret;exact ⟨by rw [ny.o];rfl,aZ.o.trans cX.o⟩
theorem anV (l:List Tree):GC l=l.all kN:=by
 induction l with
 | nil=> rfl
 | cons x r ih=> simp only [GC,List.all_cons,ih]
theorem ac4 (m:MRe):∀ (w:World),m.aK w→m.ab.dE→
  Calls Tryz.prog 56 #[m.val] w fun e w'=> e=.returned (F (kN m.ab))∧I [] w w':=by
 induction m using MRe.nq with
 | h op sa sc set ka kc kids mn mx mode n neg ih=>
  intro w aj aJ;obtain ⟨R,aC⟩:∃ R,R=kN (MRe.ab (.node op sa sc set ka kc kids mn mx mode n neg)):=⟨_,rfl⟩;rw [←aC];replace aC:R=if op=3 then false else if op=2∨op=10∨op=5 then GC (MRe.al kids) else if op=4 then mode==2 || (mn==mx && wq (MRe.al kids)) else true:=by rw [aC];simp only [MRe.ab,kN]
  have eC:=kB aJ;have ff:=C (fun k (hk:k∈kids) W (h:I [] w W)=> ih k hk W ((aj.dy hk).ah h) (mS aJ hk));have hcap:=aj.ch.cap;have fc:=aj.ch.le;unfold maxLen at hcap;have b6:=C aj.kids;simp only [MRe.val];obtain ⟨U,aA,ar,c1,c2,an,av,ay,ax,az,dw,aB,aZ⟩:=tD w op sa sc set ka kc kids mn mx mode n neg;clear ih aj aJ
  by_cases h3:op=3
  ·rw [if_pos h3] at aC;subst h3;subst aC;clear eC;go_enter Tryz.func56,Tryz.ntmps56
   go_upto_region 1 with fail
   rw [←dw.o,←aB.o];go_wp2;go_ret;exact ⟨rfl,aZ.o⟩
  ·rw [if_neg h3] at aC
   by_cases eY:op=2∨op=10∨op=5
   ·rw [if_pos eY,anV] at aC;have dW:=C aC;clear aC eC h3
    rcases eY with rfl | rfl | rfl
    all_goals
     go_enter Tryz.func56,Tryz.ntmps56
     go_upto_region 1 with fail
     rw [←dw.o,←aB.o];go_wp2
     go_loopw [3] (fun i wr=> ∃ k:Nat,k≤kids.length∧i=H J k∧(∀ x∈(MRe.al kids).take k,kN x=true)∧I [] aA wr) (fun i _=> kids.length - (intOf i).toNat)
     case atStart=> exact ⟨0,Nat.zero_le _,rfl,by simp,I.refl _ _⟩
     case round=>
      obtain ⟨k,gC,rfl,fB,ck⟩:=hrel;have eg:=C fB;have cX:=C ck;have dp:=ck.c c2;clear fB ck ar c1 c2 an av ay ax az
      by_cases aQ:k < kids.length
      ·obtain ⟨b,off,rfl,ad,hx⟩:=(b6.o.ah (aZ.o.trans cX.o)).ch.dy (by omega);have eD:=hx k aQ;have bI:=C (ff.o kids[k] (List.getElem_mem aQ) wr (aZ.o.trans cX.o));have i5:k < (MRe.al kids).length:=by rw [MRe.ee];exact aQ
       have hn:=fun h=> U1 (p:=kN) i5 eg.o h;have hf:=fun h=> Rs (p:=kN) i5 h;rw [kQ kids k aQ] at hn hf;have dP:=C hn;have gj:=C hf
       generalize kids[k]=m at *
       obtain ⟨ae,hq⟩:∃ ae,ae=kN m.ab:=⟨_,rfl⟩;rw [←hq] at bI dP gj;obtain ⟨op1,aM,aN,set1,aS,kc1,aq,mn1,aI,mode1,n1,aL⟩:=m;have g:=eD.node;obtain ⟨bg,aV,a6,bl,bq,bE,bF,bH⟩:=id g;simp only [MRe.val] at bI;clear g eD hx hq hn hf;go_wp2_with fail
       refine Calls.mono bI.o ?_;rintro e w3 ⟨rfl,aP⟩;have aR:=C (cX.o.trans aP);clear aP
       cases ae with
       | true=>
        have k8:=C (dP.o rfl);go_wp2;go_roundw
        case rel=> exact ⟨k + 1,by omega,by go_num,k8.o,aR.o⟩
        case measure=> simp [intOf];omega
       | false=>
        have sA:=C (gj.o rfl);go_wp2;go_ret;exact ⟨by rw [dW.o,sA.o];rfl,aZ.o.trans aR.o⟩
      ·obtain rfl:k=kids.length:=by omega
       have h0:=Rt (p:=kN) (l:=MRe.al kids) (by rw [MRe.ee];exact eg.o);have ny:=C h0;clear h0;go_wp2;go_ret;exact ⟨by rw [dW.o,ny.o];rfl,aZ.o.trans cX.o⟩
   ·rw [if_neg eY] at aC;have h2:¬ op=2:=fun h=> eY (.inl h);have pZ:¬ op=10:=fun h=> eY (.inr (.inl h));have h5:¬ op=5:=fun h=> eY (.inr (.inr h))
    by_cases h4:op=4
    ·rw [if_pos h4] at aC;have lE:kids.length=1:=eC.hone (by simp [h4]);have l7:0 < kids.length:=by omega
     have hln:(0:Int) < (kids.length:Int):=by omega
     obtain ⟨b1,cR,dq,rfl,iM,hD,jf,hP⟩:=b6.o.head l7;obtain ⟨r,aO⟩:=oJ hD;have hg:wq (MRe.al kids)=kN dq.ab:=by rw [aO];rfl
     rw [hg] at aC;have bI:=ff.o dq iM;obtain ⟨ae,hq⟩:∃ ae,ae=kN dq.ab:=⟨_,rfl⟩;simp only [←hq] at bI aC;subst h4;obtain ⟨op1,aM,aN,set1,aS,kc1,aq,mn1,aI,mode1,n1,aL⟩:=dq;have g:=jf.node;obtain ⟨bg,aV,a6,bl,bq,bE,bF,bH⟩:=id g;obtain ⟨bK,d1,d2,bL,bO,bT,bU,bV⟩:=aZ.o.au bg aV a6 bl bq bE bF bH;simp only [MRe.val] at bI;have bI:=C bI;clear g bg aV a6 bl bq bE bF bH iM hD jf hP aO hg hq lE eC h3 eY h2 pZ h5
     by_cases m2:mode=2
     ·subst m2;have aD:=C (show R=true by rw [aC];rfl);clear aC;go_enter Tryz.func56,Tryz.ntmps56
      go_upto_region 1 with fail
      rw [←dw.o,←aB.o];go_wp2;go_ret;exact ⟨by rw [aD.o];rfl,aZ.o⟩
     ·have iR:(mode==2)=false:=by simpa using m2
      by_cases me:mn=mx
      ·subst me;have aD:=C (show R=ae by rw [aC,iR];simp);clear aC;go_enter Tryz.func56,Tryz.ntmps56
       go_upto_region 1 with fail
       rw [←dw.o,←aB.o];go_wp2_with fail
       refine Calls.mono (bI.o _ aZ.o) ?_;rintro e w3 ⟨rfl,aP⟩;have aR:=C (aZ.o.trans aP);clear aP;go_wp2;go_ret;exact ⟨by rw [aD.o];rfl,aR.o⟩
      ·have KM:(mn==mx)=false:=by simpa using me
       have aD:=C (show R=false by rw [aC,iR,KM];rfl);clear aC;go_enter Tryz.func56,Tryz.ntmps56
       go_upto_region 1 with fail
       rw [←dw.o,←aB.o];go_wp2;go_ret;exact ⟨by rw [aD.o];rfl,aZ.o⟩
    ·rw [if_neg h4] at aC;have aD:=C aC;have kr:(op==3)=false:=by simpa using h3
     have q2:(op==2)=false:=by simpa using h2
     have amE:(op==10)=false:=by simpa using pZ
     have kK:(op==5)=false:=by simpa using h5
     have ml:(op==4)=false:=by simpa using h4
     clear aC eY eC;go_enter Tryz.func56,Tryz.ntmps56
     go_upto_region 1 with fail
     rw [←dw.o,←aB.o];go_wp2;go_ret;exact ⟨by rw [aD.o];rfl,aZ.o⟩
def OZ (t:Tree):List Tree→Tree
 | [x]=> x
 | ks=> ze t ks
def UL (t:Tree) (i j:Nat) (l:List Tree):Tree:=OZ t (t.kids.take i ++ (l ++ t.kids.drop j))
theorem al5 {t:Tree} {ks:List Tree} (h:ks.length≠1):OZ t ks=ze t ks:=by
 match ks,h with
 | [],_=> rfl
 | [x],h=> simp at h
 | x::y::r,_=> rfl
theorem Pc (m:MRe) (i j:Nat) (cS:Option Addr) (dH:Nat) (l:List MRe) (w:World) (aj:m.aK w) (hl:gT w cS dH l) (N1:i≤j) (c8:j≤m.kids.length) (h0:0 < m.kids.length) (ad:m.kids.length + l.length≤1000000):
  Calls Tryz.prog 48 #[m.val,H J i,H J j,M cS l.length dH] w (Dp w (m.aw ++ MRe.dN l) (UL m.ab i j (MRe.al l))):=by
 obtain ⟨gq,hi,dQ,fj,eI⟩:=info_parts Eb;have gH:=C hi;have gI:=C dQ;have gJ:=C fj;have gK:=C eI;clear hi dQ fj eI;obtain ⟨R,aC⟩:∃ R,R=UL m.ab i j (MRe.al l):=⟨_,rfl⟩;rw [←aC];obtain ⟨op,sa,sc,set,ka,kc,kids,mn,mx,mode,n,neg⟩:=m;simp only [MRe.kids] at c8 h0 ad;obtain ⟨U,aE,aB,c7,bI,ba,cZ,aH⟩:=rS w op sa sc set ka kc kids mn mx mode n neg;have hC:=C cZ;obtain ⟨b,off,rfl,lk,_⟩:=aj.ch.dy h0;have hcap:=aj.ch.cap;have fc:=aj.ch.le;unfold maxLen at hcap;have dB:=aj.ch.drop j c8;have gQ:∀ W:World,(Instr.sliceAt 24 (M (some ⟨b,off,none⟩) kids.length kc) none (some (H J i)) none).run Tryz.prog W=.ok (M (some ⟨b,off,none⟩) i kc) W:=by
  intro W;have q2:(i:Int)≤kc:=by omega
  simp [go_sem,q2]
 have gn:∀ W:World,(Instr.sliceAt 24 (M (some ⟨b,off,none⟩) kids.length kc) (some (H J j)) none none).run Tryz.prog W=.ok (M (if kc=j then some ⟨b,off,none⟩ else some ⟨b,off + j * 8,none⟩) (kids.length - j) (kc - j)) W:=by
  intro W;have q1:(j:Int)≤kids.length:=by omega
  simp [go_sem,q1]
 obtain ⟨rN,yK⟩:∃ rN,rN=(if kc=j then some (⟨b,off,none⟩:Addr) else some ⟨b,off + j * 8,none⟩):=⟨_,rfl⟩;rw [←yK] at dB gn;have rM:(kids.take i).length=i:=by rw [List.length_take];omega
 have Bi:(kids.drop j).length=kids.length - j:=List.length_drop;have o2:=aj.ch.take i;have yN:0 < i→∃ aX,(some ⟨b,off,none⟩:Option Addr)=some aX∧∀ j u,(fX (kids.take i))[j]? =some u→aE.cell? (aX.add j)=some u:=fun h=> (o2.ah aH.o).src (by omega);have qn:=C yN;have j3:=C (fun (W:World) (h:I [] w W)=> (hl.ch.ah h).src);have aaT:∀ W,I [] w W→0 < kids.length - j→∃ aX,rN=some aX∧∀ LJ u,(fX (kids.drop j))[LJ]? =some u→W.cell? (aX.add LJ)=some u:=fun W h oW=> (dB.ah h).src (by omega);have qo:=C aaT;have C6:=C (show (fX (kids.take i)).length=i * 8 by rw [Cg,rM]);have yk:=C (show (fX (kids.drop j)).length=(kids.length - j) * 8 by rw [Cg,Bi]);obtain ⟨ks,hks⟩:∃ ks,ks=kids.take i ++ (l ++ kids.drop j):=⟨_,rfl⟩;have HO:MRe.al ks=(MRe.al kids).take i ++ (MRe.al l ++ (MRe.al kids).drop j):=by rw [hks];simp [MRe.kP]
 have mK:ks.length=i + l.length + (kids.length - j):=by rw [hks];simp only [List.length_append,rM,Bi];omega
 have kF:R=OZ (.node op set (MRe.al kids) mn mx mode n neg) (MRe.al ks):=by rw [aC,HO];rfl
 have lP:∀ x∈ks,x∈kids∨x∈l:=fun x hx=> by
  rw [hks] at hx
  rcases List.mem_append.1 hx with hx | hx
  ·exact .inl (List.mem_of_mem_take hx)
  ·rcases List.mem_append.1 hx with hx | hx
   ·exact .inr hx
   ·exact .inl (List.mem_of_mem_drop hx)
 have ZL:∀ x∈ks,x.aK w:=fun x hx=> by
  rcases lP x hx with h | h
  ·exact aj.dy h
  ·exact hl.all x h
 have xQ:∀ x∈ks,∀ ae∈x.aw,ae∈(MRe.node op sa sc set (some ⟨b,off,none⟩) kc kids mn mx mode n neg).aw ++ MRe.dN l:=fun x hx ae hq=> by
  rcases lP x hx with h | h
  ·exact List.mem_append_left _ (mF h ae hq)
  ·exact List.mem_append_right _ (MRe.mQ h hq)
 have aQ:∀ ae∈(MRe.node op sa sc set (some ⟨b,off,none⟩) kc kids mn mx mode n neg).aw ++ MRe.dN l,ae < w.heap.size:=fun x hx=> by
  rcases List.mem_append.1 hx with hx | hx
  ·exact aj.fi x hx
  ·exact hl.fi x hx
 have ig:∀ ae∈df set.length sa,ae∈(MRe.node op sa sc set (some ⟨b,off,none⟩) kc kids mn mx mode n neg).aw ++ MRe.dN l:=fun ae hq=> List.mem_append_left _ (by simp only [MRe.aw,List.mem_append];exact .inl hq);have hL:=C ig;have fp:=C aj.nV;have MC:=C ZL;have vx:=C xQ;have eU:=C aQ;have gN:=C kF;have xq:=C mK;have fZ:=C hks;clear aC kF hks HO mK lP ZL xQ aQ ig yN aaT rM Bi o2 dB yK aj hl lk cZ;obtain ⟨src,o1⟩:∃ src,src=(MRe.node op sa sc set (some ⟨b,off,none⟩) kc kids mn mx mode n neg).aw ++ MRe.dN l:=⟨_,rfl⟩;rw [←o1] at vx eU hL ⊢;simp only [MRe.val];clear o1;obtain ⟨ar,c1,c2,an,av,ay,ax,az⟩:=bI.o.ez;go_enter Tryz.func48,Tryz.ntmps48
 go_upto_region 1 with fail
 rw [←c7.o,←aB.o]
 go_wp2_with (at_builtin;refine tF rfl (.tmp 10) (.tmp 14) 24 rfl 26 gq _ 8 96 Tryz.underlying24 gH.o gI.o gJ.o gK.o rfl (by decide) none 0 0 [] rfl (cr.nil _ _ _) (some ⟨b,off,none⟩) i kc (fX (kids.take i)) rfl C6.o qn.o (wT _) (by omega) (by omega) ?hk)
 case hk=>
  intro a1 UG w1 dd hk1 re;have JM:=C dd;have ec:=C (show I [] aE w1 from hk1);have ke:=C (show ∀ g,a1=some g→aE.heap.size≤g by
   intro g hg
   rcases re with h | ⟨hv,h,h2⟩
   ·rw [hg] at h;cases h
   ·rw [hg] at h;cases h;exact h2)
  obtain ⟨bK,d1,d2,bL,bO,bT,bU,bV⟩:=hk1.au ar c1 c2 an av ay ax az;clear dd hk1 re ar c1 c2 an av ay ax az;simp only [de]
  go_wp2_with (at_builtin;refine tF rfl (.tmp 16) (.tmp 17) 24 rfl 26 gq _ 8 96 Tryz.underlying24 gH.o gI.o gJ.o gK.o rfl (by decide) a1 i UG _ rfl JM.o cS l.length dH (fX l) rfl (Cg l) (j3.o _ (aH.o.trans ec.o)) (wT l) (by omega) (by omega) ?hk)
  case hk=>
   intro a2 UH w2 dd hk2 m4;have JN:=C dd;have aU:=C (show I [] aE w2 from ec.o.cn hk2 (by intro x hx;simp at hx;exact .inr (ke.o x hx)));have wy:=C (show ∀ g,a2=some g→aE.heap.size≤g by
    intro g hg
    rcases m4 with h | ⟨hv,h,h2⟩
    ·exact ke.o g (by rw [←h,hg])
    ·rw [hg] at h;cases h;have:=ec.o.size;omega)
   have sX:∀ g,a1=some g→g≠U:=fun g hg h=> by have:=ke.o g hg;have:=hC.o;omega
   have ar:=hk2.cell bK (by simp;intro h;exact sX _ h rfl);have c1:=hk2.cell d1 (by simp;intro h;exact sX _ h rfl);have c2:=hk2.cell d2 (by simp;intro h;exact sX _ h rfl);have an:=hk2.cell bL (by simp;intro h;exact sX _ h rfl);have av:=hk2.cell bO (by simp;intro h;exact sX _ h rfl);have ay:=hk2.cell bT (by simp;intro h;exact sX _ h rfl);have ax:=hk2.cell bU (by simp;intro h;exact sX _ h rfl);have az:=hk2.cell bV (by simp;intro h;exact sX _ h rfl);clear dd hk2 m4 sX bK d1 d2 bL bO bT bU bV JM;simp only [de]
   go_wp2_with (at_builtin;refine tF rfl (.tmp 19) (.tmp 23) 24 rfl 26 gq _ 8 96 Tryz.underlying24 gH.o gI.o gJ.o gK.o rfl (by decide) a2 (i + l.length) UH _ rfl JN.o rN (kids.length - j) (kc - j) (fX (kids.drop j)) rfl yk.o (qo.o _ (aH.o.trans aU.o)) (wT _) (by omega) (by omega) ?hk)
   case hk=>
    intro a3 za w3 dd aP zT;rw [←Cf,←Cf,←fZ.o,←xq.o] at dd;rw [←xq.o];have Q7:=C dd;have aR:=C (show I [] aE w3 from aU.o.cn aP (by intro x hx;simp at hx;exact .inr (wy.o x hx)));have I0:=C (show ∀ g,a3=some g→aE.heap.size≤g by
     intro g hg
     rcases zT with h | ⟨hv,h,h2⟩
     ·exact wy.o g (by rw [←h,hg])
     ·rw [hg] at h;cases h;have:=aU.o.size;omega)
    have sX:∀ g,a2=some g→g≠U:=fun g hg h=> by have:=wy.o g hg;have:=hC.o;omega
    have bK:=aP.cell ar (by simp;intro h;exact sX _ h rfl);have d1:=aP.cell c1 (by simp;intro h;exact sX _ h rfl);have d2:=aP.cell c2 (by simp;intro h;exact sX _ h rfl);have bL:=aP.cell an (by simp;intro h;exact sX _ h rfl);have bO:=aP.cell av (by simp;intro h;exact sX _ h rfl);have bT:=aP.cell ay (by simp;intro h;exact sX _ h rfl);have bU:=aP.cell ax (by simp;intro h;exact sX _ h rfl);have bV:=aP.cell az (by simp;intro h;exact sX _ h rfl);clear dd aP zT sX ar c1 c2 an av ay ax az JN gQ gn;have vB:=C (hH.we Q7.o);have Lc:=vB.o.cap;have ZH:=vB.o.le;unfold maxLen at Lc;simp only [de]
    by_cases h1:ks.length=1
    ·obtain ⟨g,iV,hg,_,hx⟩:=vB.o.dy (by omega);have eD:=hx 0 (by omega);have cQ:ks[0]∈ks:=List.getElem_mem (by omega);have cm:=MC.o _ cQ;have hbl:=vx.o _ cQ;have HB:R=ks[0].ab:=by
      rw [gN.o]
      match ks,h1 with
      | [x],_=> rfl
     obtain ⟨x,LD⟩:∃ x,x=ks[0]:=⟨_,rfl⟩;rw [←LD] at eD cm hbl HB;have jq:=C cm;have kS:=C hbl;have jr:=C HB;obtain ⟨dv,TU⟩:∃ dv,dv=x:=⟨_,rfl⟩;rw [←TU] at jq kS jr;have E8:=C TU;obtain ⟨bA,bB,bC,bD,bs,bt,bu,bo,bx,bw,bp,bz⟩:=x;rw [Nat.zero_mul,Nat.add_zero] at eD;have ae:=eD.node;obtain ⟨ep,aJ,cP,eM,eF,eN,eO,eP⟩:=id ae;obtain ⟨z0,z1,z2,z3,z4,z5,b9,cc,cj⟩:=ew (aR.o.h ba.o);rw [hg];have ajh:(ks.length:Int)=1:=by omega
     clear ae eD hx cQ cm hbl HB LD TU hg Lc ZH;obtain ⟨eo,ey,fS,fT⟩:=Ga (nd aB.o aH.o aR.o ba.o (by rw [←E8.o];exact jq.o.ah (aH.o.trans aR.o)) (show du (U + 2) src (.node bA bB bC bD bs bt bu bo bx bw bp bz:MRe).aw by rw [←E8.o];exact du.rR kS.o) eU.o);go_wp2;refine mA eo.o ?_;exact Dp.hR (.node bA bB bC bD bs bt bu bo bx bw bp bz) (by rw [jr.o,E8.o]) rfl ey.o fS.o fT.o
    ·have HB:R=(MRe.node op sa sc set (a3.map fun g=> ⟨g,0,none⟩) za ks mn mx mode n neg).ab:=by
      rw [gN.o,al5 (by rw [MRe.ee];exact h1)];rfl
     have jr:=C HB;have ajh:¬ (ks.length:Int)=1:=by omega
     have Sb:=aR.o.heap (show aE.heap[U]? =some (bf op sa set sc (some ⟨b,off,none⟩) kids kc mn mx mode n neg) by rw [c7.o,aB.o];exact (I.a1 _ _).heap (heap_alloc_new w _) (by simp)) (by simp);have I3:=C Sb;have z7:=h6 Sb;clear HB Lc ZH Sb;go_upto_region 8 with fail
     obtain ⟨ak,cY⟩:∃ ak,ak=w3.setCell ⟨U,2,none⟩ (M (a3.map fun g=> ⟨g,0,none⟩) ks.length za):=⟨_,rfl⟩;have dh:I [U] w3 ak:=by rw [cY];exact (I.refl [U] w3).setCell (p:=⟨U,2,none⟩) (.inl (by simp)) _
     have Fs:ak.heap[U]? =some (bf op sa set sc (a3.map fun g=> ⟨g,0,none⟩) ks za mn mx mode n neg):=by rw [cY];exact heap_setCell_same _ U 2 _ _ _ I3.o
     rw [←cY];obtain ⟨ahC,W4,W5,ahD,ahE,ahG,ahH,ahI⟩:=eR Fs;have si:w.heap.size≤U:=by rw [aB.o];exact Nat.le_refl _
     have dG:=C (show I [U] aE ak from (aR.o.mono (by simp)).trans dh);have Hc:=C (show I [] w ak from (aH.o.trans aR.o).cn dh (by intro x hx;simp at hx;subst hx;exact .inr si));have As:ak.heap[U + 1]? =some cO:=dh.heap (aR.o.h ba.o) (by simp);obtain ⟨z0,z1,z2,z3,z4,z5,b9,cc,cj⟩:=ew As;have hgB:∀ ae∈df ks.length (a3.map fun g=> (⟨g,0,none⟩:Addr)),U + 2≤ae:=fun ae hq=> Nat.le_trans hC.o ((lV.zJ I0.o) ae hq);have DX:MRe.aK ak (.node op sa sc set (a3.map fun g=> ⟨g,0,none⟩) za ks mn mx mode n neg):=by
      refine .hR (fp.o.ah Hc.o) ⟨vB.o.bG dh (fun ae hq=> ?_),fun x hx=> (MC.o x hx).ah Hc.o⟩
      have:=hgB ae hq
      simp;omega
     have K1:du (U + 2) src (MRe.node op sa sc set (a3.map fun g=> ⟨g,0,none⟩) za ks mn mx mode n neg).aw:=fun ae hq=> by
      simp only [MRe.aw,List.mem_append] at hq
      rcases hq with h | h | h
      ·exact .inl (hL.o ae h)
      ·exact .inr (hgB ae h)
      ·obtain ⟨y,hy,o0⟩:=MRe.tm h;exact .inl (vx.o y hy ae o0)
     obtain ⟨aY,cm,fy,gB⟩:=nd aB.o Hc.o (I.refl [] ak) As DX K1 eU.o;have eo:=C aY;have ey:=C cm;have fS:=C fy;have fT:=C gB;clear aY cm fy gB cY dh Fs As DX K1 hgB z7 bK d1 d2 bL bO bT bU bV;go_wp2;refine mA eo.o ?_;exact Dp.hR (.node op sa sc set (a3.map fun g=> ⟨g,0,none⟩) za ks mn mx mode n neg) jr.o.symm rfl ey.o fS.o fT.o
theorem ao3 {ks:List Tree} (h:∀ k∈ks,k.dE):Tree.q7 (.node 2 [] ks 0 0 0 0 false):=
 .mk ⟨by omega,fun h=> by omega,fun h=> by omega,fun h=> by omega,fun _=> rfl⟩ fun k hk=> (h k hk).ae
def lH (l:List (Int × Int)) (x:Int):Prop:=∃ s∈l,s.1≤x∧x≤s.2
def rr (l:List (Int × Int)):Prop:=(∀ s∈l,s.1≤s.2)∧l.Pairwise fun s t=> s.2 + 2≤t.1
theorem Kf:∀ {l:List (Int × Int)},lZ l→rr l
 | [],_=> ⟨by simp,List.Pairwise.nil⟩
 | [s],h=> ⟨by intro t ht;simp at ht;subst ht;exact h.2.1,by simp⟩
 | s::t::r,h=> by
  obtain ⟨h0,h1,h2,h3⟩:=h;have ih:=Kf (l:=t::r) h3;refine ⟨fun x hx=> ?_,List.pairwise_cons.2 ⟨fun x hx=> ?_,ih.2⟩⟩
  ·rcases List.mem_cons.1 hx with rfl | hx
   ·exact h1
   ·exact ih.1 x hx
  ·rcases List.mem_cons.1 hx with rfl | hx
   ·exact h2
   ·have h4:=(List.pairwise_cons.1 ih.2).1 x hx;have h5:=ih.1 t (by simp);omega
theorem Bw (x:Int):¬ lH [] x:=by rintro ⟨s,hs,_⟩;simp at hs
theorem od (s:Int × Int) (l:List (Int × Int)) (x:Int):lH (s::l) x↔(s.1≤x∧x≤s.2)∨lH l x:=by
 unfold lH
 constructor
 ·rintro ⟨t,ht,h⟩
  rcases List.mem_cons.1 ht with rfl | ht
  ·exact .inl h
  ·exact .inr ⟨t,ht,h⟩
 ·rintro (h | ⟨t,ht,h⟩)
  ·exact ⟨s,by simp,h⟩
  ·exact ⟨t,by simp [ht],h⟩
theorem Io (a b:List (Int × Int)) (x:Int):lH (a ++ b) x↔lH a x∨lH b x:=by
 induction a with
 | nil=> simp [Bw]
 | cons s r ih=> rw [List.cons_append,od,od,ih,or_assoc]
theorem Fk {s:Int × Int} {l:List (Int × Int)}:rr (s::l)↔s.1≤s.2∧(∀ t∈l,s.2 + 2≤t.1)∧rr l:=by
 unfold rr;rw [List.pairwise_cons]
 constructor
 ·rintro ⟨h1,h2,h3⟩;exact ⟨h1 s (by simp),h2,fun t ht=> h1 t (by simp [ht]),h3⟩
 ·rintro ⟨h1,h2,h3,h4⟩;refine ⟨fun t ht=> ?_,h2,h4⟩
  rcases List.mem_cons.1 ht with rfl | ht
  ·exact h1
  ·exact h3 t ht
theorem R5 {l:List (Int × Int)} {s:Int × Int}:rr (l ++ [s])↔rr l∧s.1≤s.2∧∀ t∈l,t.2 + 2≤s.1:=by
 unfold rr;rw [List.pairwise_append]
 constructor
 ·rintro ⟨h1,h2,_,h3⟩;exact ⟨⟨fun t ht=> h1 t (by simp [ht]),h2⟩,h1 s (by simp),fun t ht=> h3 t ht s (by simp)⟩
 ·rintro ⟨⟨h1,h2⟩,h3,h4⟩;refine ⟨fun t ht=> ?_,h2,by simp,fun a b8 b ad=> ?_⟩
  ·rcases List.mem_append.1 ht with ht | ht
   ·exact h1 t ht
   ·simp at ht;subst ht;exact h3
  ·simp at ad;subst ad;exact h4 a b8
theorem R6:∀ {l m:List (Int × Int)},rr l→rr m→(∀ x,lH l x↔lH m x)→l=m
 | [],[],_,_,_=> rfl
 | [],t::ae,_,hm,h=> by
  have h1:=(Fk.1 hm).1;exact absurd ((h t.1).2 ((od t ae t.1).2 (.inl ⟨Int.le_refl _,h1⟩))) (Bw _)
 | s::r,[],hl,_,h=> by
  have h1:=(Fk.1 hl).1;exact absurd ((h s.1).1 ((od s r s.1).2 (.inl ⟨Int.le_refl _,h1⟩))) (Bw _)
 | s::r,t::ae,hl,hm,h=> by
  obtain ⟨a1,a2,a3⟩:=Fk.1 hl;obtain ⟨b1,b2,b3⟩:=Fk.1 hm;have LX:∀ x,lH r x→s.2 + 2≤x:=by rintro x ⟨u,cy,h1,_⟩;have:=a2 u cy;omega
  have Uj:∀ x,lH ae x→t.2 + 2≤x:=by rintro x ⟨u,cy,h1,_⟩;have:=b2 u cy;omega
  have aV:s.1=t.1:=by
   have h1:=(h s.1).1 ((od s r s.1).2 (.inl ⟨Int.le_refl _,a1⟩));have h2:=(h t.1).2 ((od t ae t.1).2 (.inl ⟨Int.le_refl _,b1⟩));rw [od] at h1 h2
   rcases h1 with h1 | h1
   ·rcases h2 with h2 | h2
    ·omega
    ·have:=LX _ h2;omega
   ·have:=Uj _ h1
    rcases h2 with h2 | h2
    ·omega
    ·have:=LX _ h2;omega
  have a6:s.2=t.2:=by
   rcases Int.lt_trichotomy s.2 t.2 with hc | hc | hc
   ·have h1:=(h (s.2 + 1)).2 ((od t ae _).2 (.inl ⟨by omega,by omega⟩));rw [od] at h1
    rcases h1 with h1 | h1
    ·omega
    ·have:=LX _ h1;omega
   ·exact hc
   ·have h1:=(h (t.2 + 1)).1 ((od s r _).2 (.inl ⟨by omega,by omega⟩));rw [od] at h1
    rcases h1 with h1 | h1
    ·omega
    ·have:=Uj _ h1;omega
  have bl:r=ae:=R6 a3 b3 fun x=> by
   have hx:=h x;rw [od,od] at hx
   constructor
   ·intro h1;have h2:=LX x h1
    rcases hx.1 (.inr h1) with h3 | h3
    ·omega
    ·exact h3
   ·intro h1;have h2:=Uj x h1
    rcases hx.2 (.inr h1) with h3 | h3
    ·omega
    ·exact h3
  rw [bl,Prod.ext aV a6]
theorem W9 {out:List (Int × Int)} {s:Int × Int} (h:rr out) (hs:s.1≤s.2) (ad:∀ z∈out,z.1≤s.1):
  rr (qw out s)∧(∀ x,lH (qw out s) x↔lH out x∨(s.1≤x∧x≤s.2))∧∀ z∈qw out s,z.1≤s.1:=by
 rcases List.eq_nil_or_concat out with rfl | ⟨l,z,rfl⟩
 ·rw [Nh];refine ⟨⟨by intro t ht;simp at ht;subst ht;exact hs,by simp⟩,fun x=> ?_,by intro z aW;simp at aW;subst aW;exact Int.le_refl _⟩;rw [od]
  constructor
  ·rintro (h | h)
   ·exact .inr h
   ·exact .inl h
  ·rintro (h | h)
   ·exact .inr h
   ·exact .inl h
 ·rw [List.concat_eq_append] at h ad ⊢;obtain ⟨g1,g2,g3⟩:=R5.1 h;have aW:=ad z (by simp)
  by_cases hc:s.1≤z.2 + 1
  ·rw [JT l z s hc];refine ⟨R5.2 ⟨g1,by simp only;omega,g3⟩,fun x=> ?_,fun t ht=> ?_⟩
   ·rw [Io,Io,od,od];simp only [Bw,or_false]
    constructor
    ·rintro (h1 | h1)
     ·exact .inl (.inl h1)
     ·by_cases hx:x≤z.2
      ·exact .inl (.inr ⟨h1.1,hx⟩)
      ·exact .inr ⟨by omega,by omega⟩
    ·rintro ((h1 | h1) | h1)
     ·exact .inl h1
     ·exact .inr ⟨h1.1,by omega⟩
     ·exact .inr ⟨by omega,by omega⟩
   ·rcases List.mem_append.1 ht with ht | ht
    ·exact ad t (by simp [ht])
    ·simp at ht;subst ht;exact aW
  ·rw [JU l z s hc];refine ⟨R5.2 ⟨h,hs,fun t ht=> ?_⟩,fun x=> ?_,fun t ht=> ?_⟩
   ·rcases List.mem_append.1 ht with ht | ht
    ·have:=g3 t ht;omega
    ·simp at ht;subst ht;omega
   ·rw [Io (l ++ [z])];rw [od];simp only [Bw,or_false]
   ·rcases List.mem_append.1 ht with ht | ht
    ·exact ad t ht
    ·simp at ht;subst ht;exact Int.le_refl _
def lS (x:Int × Int):List (Int × Int)→(Int × Int) × List (Int × Int)
 | []=> (x,[])
 | y::r=> if y.1 < x.1 then ((lS y r).1,x::(lS y r).2) else ((lS x r).1,y::(lS x r).2)
theorem Pl:∀ (x:Int × Int) (l:List (Int × Int)),(lS x l).2.length=l.length
 | _,[]=> rfl
 | x,y::r=> by
  unfold lS
  split
  ·simp [Pl y r]
  ·simp [Pl x r]
theorem Pm:∀ (x:Int × Int) (l:List (Int × Int)) (s:Int × Int),(s=(lS x l).1∨s∈(lS x l).2)↔(s=x∨s∈l)
 | x,[],s=> by simp [lS]
 | x,y::r,s=> by
  unfold lS
  split
  ·have h:=Pm y r s;simp only [List.mem_cons]
   constructor
   ·rintro (h1 | h1 | h1)
    ·rcases h.1 (.inl h1) with h2 | h2
     ·exact .inr (.inl h2)
     ·exact .inr (.inr h2)
    ·exact .inl h1
    ·rcases h.1 (.inr h1) with h2 | h2
     ·exact .inr (.inl h2)
     ·exact .inr (.inr h2)
   ·rintro (h1 | h1 | h1)
    ·exact .inr (.inl h1)
    ·rcases h.2 (.inl h1) with h2 | h2
     ·exact .inl h2
     ·exact .inr (.inr h2)
    ·rcases h.2 (.inr h1) with h2 | h2
     ·exact .inl h2
     ·exact .inr (.inr h2)
  ·have h:=Pm x r s;simp only [List.mem_cons]
   constructor
   ·rintro (h1 | h1 | h1)
    ·rcases h.1 (.inl h1) with h2 | h2
     ·exact .inl h2
     ·exact .inr (.inr h2)
    ·exact .inr (.inl h1)
    ·rcases h.1 (.inr h1) with h2 | h2
     ·exact .inl h2
     ·exact .inr (.inr h2)
   ·rintro (h1 | h1 | h1)
    ·rcases h.2 (.inl h1) with h2 | h2
     ·exact .inl h2
     ·exact .inr (.inr h2)
    ·exact .inr (.inl h1)
    ·rcases h.2 (.inr h1) with h2 | h2
     ·exact .inl h2
     ·exact .inr (.inr h2)
theorem UR:∀ (x:Int × Int) (l:List (Int × Int)),(lS x l).1.1≤x.1∧∀ s∈(lS x l).2,(lS x l).1.1≤s.1
 | x,[]=> by simp [lS]
 | x,y::r=> by
  unfold lS
  split
  ·rename_i hc
   obtain ⟨h1,h2⟩:=UR y r;refine ⟨by simp only;omega,fun s hs=> ?_⟩;simp only [List.mem_cons] at hs
   rcases hs with rfl | hs
   ·simp only;omega
   ·exact h2 s hs
  ·rename_i hc
   obtain ⟨h1,h2⟩:=UR x r;refine ⟨h1,fun s hs=> ?_⟩;simp only [List.mem_cons] at hs
   rcases hs with rfl | hs
   ·simp only;omega
   ·exact h2 s hs
def vf:List (Int × Int)→List (Int × Int)→List (Int × Int)
 | [],out=> out
 | x::r,out=> vf (lS x r).2 (qw out (lS x r).1)
termination_by l=> l.length
decreasing_by simp [Pl]
theorem abo (x:Int × Int) (r out:List (Int × Int)):vf (x::r) out=vf (lS x r).2 (qw out (lS x r).1):=by rw [vf]
theorem abp:∀ (n:Nat) (l out:List (Int × Int)),l.length=n→rr out→(∀ s∈l,s.1≤s.2)→(∀ z∈out,∀ s∈l,z.1≤s.1)→
  rr (vf l out)∧∀ x,lH (vf l out) x↔lH out x∨lH l x
 | 0,l,out,hn,hg,_,_=> by
  obtain rfl:l=[]:=List.eq_nil_of_length_eq_zero hn;rw [vf];exact ⟨hg,fun x=> by simp [Bw]⟩
 | n + 1,[],out,hn,_,_,_=> by simp at hn
 | n + 1,y::r,out,hn,hg,hs,ad=> by
  have hm:=Pm y r;obtain ⟨l1,l2⟩:=UR y r;have hin:∀ s,s=(lS y r).1∨s∈(lS y r).2→s∈y::r:=fun s h=> by
   rcases (hm s).1 h with h | h
   ·simp [h]
   ·simp [h]
  obtain ⟨g1,g2,g3⟩:=W9 hg (hs _ (hin _ (.inl rfl))) (fun z aW=> ad z aW _ (hin _ (.inl rfl)));obtain ⟨ju,iz⟩:=abp n (lS y r).2 (qw out (lS y r).1) (by rw [Pl];simpa using hn) g1 (fun s h=> hs s (hin s (.inr h))) (fun z aW s h=> Int.le_trans (g3 z aW) (l2 s h));rw [abo];refine ⟨ju,fun x=> ?_⟩;rw [iz,g2]
  constructor
  ·rintro ((h | h) | ⟨s,h1,h2⟩)
   ·exact .inl h
   ·exact .inr ⟨_,hin _ (.inl rfl),h⟩
   ·exact .inr ⟨s,hin s (.inr h1),h2⟩
  ·rintro (h | ⟨s,h1,h2⟩)
   ·exact .inl (.inl h)
   ·rcases (hm s).2 (by simpa using h1) with h3 | h3
    ·subst h3;exact .inl (.inr h2)
    ·exact .inr ⟨s,h3,h2⟩
theorem an1 {l:List Int} (h:l.Pairwise fun x y=> x≤y):(Lib.compact l).Pairwise fun x y=> x < y:=by
 unfold Lib.compact Lib.compactUpTo;rw [List.pairwise_map];refine List.Pairwise.imp_of_mem (R:=fun a b=> a < b) ?_ (List.Pairwise.filter _ (List.pairwise_lt_range));intro a b b8 ad SG;obtain ⟨gg,iR⟩:=List.mem_filter.1 ad;obtain ⟨re,_⟩:=List.mem_filter.1 b8;have hbl:b < l.length:=by simpa using gg
 have hk:l[b]!≠l[b - 1]!:=by
  intro he;rw [Lib.keeps_neg (by omega) (by simpa using he)] at iR
  cases iR
 have g:∀ i (h:i < l.length),l.toArray[i]! =l[i]:=fun i h=> by simp [h]
 have hv:∀ i (h:i < l.length),l[i]! =l[i]:=fun i h=> by simp [h]
 rw [g a (by omega),g b hbl];rw [hv b hbl,hv (b - 1) (by omega)] at hk;have p1:l[a]≤l[b - 1]:=by
  rcases Nat.lt_or_eq_of_le (show a≤b - 1 by omega) with h1 | h1
  ·exact List.pairwise_iff_getElem.1 h a (b - 1) (by omega) (by omega) h1
  ·simp only [h1];exact Int.le_refl _
 have p2:l[b - 1]≤l[b]:=List.pairwise_iff_getElem.1 h (b - 1) b (by omega) hbl (by omega);omega
end Go.Proofs.YtjnlkjlbejelgaaGreat
