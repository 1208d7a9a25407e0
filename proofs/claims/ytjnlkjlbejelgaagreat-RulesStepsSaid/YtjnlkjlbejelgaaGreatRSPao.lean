/- Part of the proof. No condition: every lemma says its own. -/
import Derived.Test.YtjnlkjlbejelgaaGreatRSPan
namespace Go.Proofs.YtjnlkjlbejelgaaGreat
open Go.RowKit
open Go.Value renaming int→H,slice→M,bool→F
open Go.IntKind renaming i64→J
set_option maxRecDepth 100000
set_option maxHeartbeats 16000000
theorem UN (m:MRe):∀ (w:World),m.aK w→m.ab.bm≤1000000→
  Calls Tryz.prog 9 #[m.val] w (Dk w m.ab):=by
 obtain ⟨gq,kn,dQ,fj,eI⟩:=info_parts F9;have gH:=C kn;have gI:=C dQ;have gJ:=C fj;have gK:=C eI;clear kn dQ fj eI;obtain ⟨LK,kn,dQ,fj,eI⟩:=info_parts abh;have JB:=C kn;have JC:=C dQ;have JD:=C fj;have JE:=C eI;clear kn dQ fj eI
 induction m using MRe.nq with
 | h op sa sc set ka kc kids mn mx mode n neg ih=>
  intro w aj ad;obtain ⟨R,aC⟩:∃ R,R=ia (MRe.ab (.node op sa sc set ka kc kids mn mx mode n neg)):=⟨_,rfl⟩;have jC:=x5 (MRe.ab (.node op sa sc set ka kc kids mn mx mode n neg));have cZ:=(AJ (MRe.ab (.node op sa sc set ka kc kids mn mx mode n neg))).1;unfold Dk;rw [←aC] at jC ⊢;replace aC:R=[]::oH 0 (MRe.al kids):=by rw [aC];simp only [MRe.ab,ia]
  have ajz:R.length≤1000000:=by omega
  have Yz:∀ p∈R,p.length≤1000000:=fun p hp=> by have:=jC.2 p hp;omega
  have mY:=C Yz;have dW:=C aC;have oM:=C ajz;obtain ⟨hbl,_,hbk⟩:=lG ad;have ff:=C (fun k (hk:k∈kids) W (h:I [] w W)=> ih k hk W ((aj.dy hk).ah h) (hbk k hk));have b6:=C aj.kids;have fc:=aj.ch.le;have hcap:=aj.ch.cap;unfold maxLen at hcap;have afx:=C (show ∀ k,k≤kids.length→∃ l,R=([]::oH 0 ((MRe.al kids).take k)) ++ l from fun k hk=> by
   have h1:∀ (l:List Tree) (i:Int) j,∃ ae,oH i l=oH i (l.take j) ++ ae:=by
    intro l
    induction l with
    | nil=> intro i j;exact ⟨[],by simp [oH]⟩
    | cons x r ih2=>
     intro i j
     cases j with
     | zero=> exact ⟨_,rfl⟩
     | succ j=> obtain ⟨ae,hq⟩:=ih2 (i + 1) j;exact ⟨ae,by simp only [List.take_succ_cons,oH,List.append_assoc];rw [←hq]⟩
   obtain ⟨ae,hq⟩:=h1 (MRe.al kids) 0 k;exact ⟨ae,by rw [aC,hq];rfl⟩)
  simp only [MRe.val];obtain ⟨U,aA,ar,c1,c2,an,av,ay,ax,az,dw,aB,aZ⟩:=tD w op sa sc set ka kc kids mn mx mode n neg;clear ih aj ad hbk aC jC cZ Yz;go_enter Tryz.func9,Tryz.ntmps9
  go_upto_region 1 with fail
  rw [←dw.o,←aB.o];go_wp2
  go_loopw [3,4,5,6] (fun v i _ _ wr=> ∃ (k g c:Nat) (rows:List kD),k≤kids.length∧i=H J k∧v=M (some ⟨g,0,none⟩) rows.length c∧rows.map kD.path=[]::oH 0 ((MRe.al kids).take k)∧pW wr (some g) c rows∧I [] aA wr∧aA.heap.size≤g∧(∀ r∈rows,∀ aX,r.bP=some aX→aA.heap.size≤aX.block)) (fun _ i _ _ _=> kids.length - (intOf i).toNat)
  case atStart=> exact ⟨0,aA.heap.size,1,[⟨none,0,[]⟩],Nat.zero_le _,rfl,rfl,rfl,⟨cr.y6 (size:=1) (c:=1) (heap_alloc_new aA _) rfl (by simp [maxLen]),fun r aO=> by simp at aO;subst aO;exact ⟨fun h=> by simp at h,Nat.le_refl _,fun aX h=> by cases h⟩⟩,I.a1 _ _,Nat.le_refl _,fun r aO aX dC=> by simp at aO;subst aO;cases dC⟩
  case round=>
   obtain ⟨k,g,c,rows,gC,rfl,rfl,hQ,qE,ck,hg,hrf⟩:=hrel;have QA:=C hQ;have ly:=C qE;have cX:=C ck;have fe:=C hg;have vE:=C hrf;have dp:=ck.c c2;clear hQ qE ck hrf
   by_cases aQ:k < kids.length
   ·obtain ⟨b,off,rfl,ad,hx⟩:=(b6.o.ah (aZ.o.trans cX.o)).ch.dy (by omega);have eD:=hx k aQ;have bI:=C (ff.o kids[k] (List.getElem_mem aQ) wr (aZ.o.trans cX.o));have i5:k < (MRe.al kids).length:=by rw [MRe.ee];exact aQ
    have hn:=acI (MRe.al kids) 0 k i5;rw [kQ kids k aQ,Int.zero_add] at hn;obtain ⟨arn,Oh⟩:=afx.o (k + 1) (by omega);rw [hn] at Oh
    generalize kids[k]=m at *
    obtain ⟨fs,rE⟩:∃ fs,fs=ia m.ab:=⟨_,rfl⟩;unfold Dk at bI;rw [←rE] at bI hn Oh;have dP:=C hn;have vC:=C Oh;obtain ⟨op1,aM,aN,set1,aS,kc1,aq,mn1,aI,mode1,n1,aL⟩:=m;have ae:=eD.node;obtain ⟨bg,aV,a6,bl,bq,bE,bF,bH⟩:=id ae;simp only [MRe.val] at bI;clear ae eD hx rE hn Oh;go_wp2_with fail
    refine Calls.mono bI.o ?_;rintro e w3 ⟨Cj,Fh,iN,rfl,Ll,Li,aP,sm,Ah⟩;have kI:iN.length=fs.length:=by rw [←Ll,List.length_map]
    have uW:=ly.o.iJ.lt;have MA:=C uW;have Zm:Cj≠g:=by omega
    have ZQ:∀ r∈iN,∀ aX,r.bP=some aX→aX.block≠g:=fun r aO aX dC=> by have:=Ah r aO aX dC;omega
    have aq3:rows.length + fs.length≤1000000:=by
     have h1:=oM.o;rw [vC.o,←List.cons_append,←QA.o] at h1;simp only [List.length_append,List.length_map] at h1;omega
    have mM:∀ p∈fs,p.length≤999999:=fun p hp=> by
     have h2:=mY.o ((k:Int)::p) (by rw [vC.o];exact List.mem_append_left _ (List.mem_cons_of_mem _ (List.mem_append_right _ (List.mem_map_of_mem hp))));simp only [List.length_cons] at h2;omega
    have hI:=C mM;have afa:=C Ll;have afJ:=C kI;have HA:=ly.o.ah aP;have wU:=cX.o.trans aP;have ae0:=C Li;have om:=C (And.intro Zm ZQ);have Jm:=C HA;have iX:=C wU;have BL:=C (show fs.length≤1000000 by omega);clear Ll Li aP sm Ah kI Zm ZQ mM HA wU bg aV a6 bl bq bE bF bH dp ad;go_wp2
    go_loopw [3,6] (fun v j BB=> ∃ (t g2 J1:Nat) (rows2:List kD),t≤fs.length∧j=H J t∧v=M (some ⟨g2,0,none⟩) rows2.length J1∧rows2.map kD.path=rows.map kD.path ++ (fs.take t).map (fun p=> (k:Int)::p)∧pW BB (some g2) J1 rows2∧I [] aA BB∧aA.heap.size≤g2∧(∀ r∈rows2,∀ aX,r.bP=some aX→aA.heap.size≤aX.block)∧pW BB (some Cj) Fh iN∧Cj≠g2∧(∀ r∈iN,∀ aX,r.bP=some aX→aX.block≠g2)) (fun _ j _=> fs.length - (intOf j).toNat)
    case atStart=> exact ⟨0,g,c,rows,Nat.zero_le _,rfl,rfl,by simp,Jm.o,iX.o,fe.o,vE.o,ae0.o,om.o.1,om.o.2⟩
    case round=>
     obtain ⟨t,g2,J1,rows2,ht,rfl,rfl,p4,Bs,hk2,sZ,z7,m6,kV,rf⟩:=hrel;have cw:=C p4;have BR:=C Bs;have bQ:=C hk2;have sA:=C z7;have C7:=C m6;have k8:=C (And.intro kV rf);have aaC:rows2.length=rows.length + t:=by
      have h1:=congrArg List.length p4;simp only [List.length_append,List.length_map,List.length_take] at h1;omega
     have aph:=BL.o;have apj:=C aaC;have aq0:rows2.length≤1000000:=by omega
     clear p4 Bs hk2 z7 m6 kV rf aaC
     by_cases s0:t < fs.length
     ·have mh:t < iN.length:=by have:=afJ.o;omega
      have sW:=C7.o.cell t mh;obtain ⟨px,uZ,xW⟩:=C7.o.kz iN[t] (List.getElem_mem mh);have Sp:iN[t].path=fs[t]:=by
       have h1:(iN.map kD.path)[t]'(by rw [List.length_map];exact mh)=fs[t]:=by simp only [afa.o]
       rw [←h1,List.getElem_map]
      have j7:=hI.o _ (List.getElem_mem s0);rw [←Sp] at j7;have o2:(fs.take (t + 1)).map (fun p=> (k:Int)::p)=(fs.take t).map (fun p=> (k:Int)::p) ++ [(k:Int)::iN[t].path]:=by
       rw [List.take_succ_eq_append_getElem s0,List.map_append,Sp];rfl
      have tf:=C o2;have aqs:=C7.o.iJ.lt;have aqp:=BR.o.iJ.lt
      generalize iN[t]=pd at *
      obtain ⟨bP,pc,path⟩:=pd;simp only at sW px uZ xW j7;have rA:=C px;have Da:=C xW;have tf:=C (show (fs.take (t + 1)).map (fun p=> (k:Int)::p)=(fs.take t).map (fun p=> (k:Int)::p) ++ [(k:Int)::path] from tf.o);have aq4:(t:Int) < (fs.length:Int):=by omega
      have On:(0:Int)≤(t:Int):=by omega
      clear px xW o2 Sp
      go_wp2_with (at_builtin;refine tF rfl (.tmp 29) (.tmp 33) 22 rfl 3 gq _ 1 8 Tryz.underlying22 gH.o gI.o gJ.o gK.o rfl (by decide) (some wr.heap.size) 1 1 [H J k] rfl ?hown bP path.length pc (path.map (H J)) rfl ?hln ?hns ?hone (by omega) (by omega) ?hk)
      case hown=> exact cr.y6 (size:=1) (c:=1) (heap_alloc_new wr _) rfl (by simp [maxLen])
      case hns=>
       have hh:=(rA.o.bG (I.a1 wr (.cells #[H J k] 3)) (fun _ _=> by simp)).src
       simpa using hh
      case hone=> intro a _;rfl
      case hk=>
       intro a1 c1 w1 gQ hk1 re;have hga:∃ oV,a1=some oV∧wr.heap.size≤oV∧oV < w1.heap.size:=by
        rcases re with rfl | ⟨g1,rfl,h⟩
        ·exact ⟨_,rfl,Nat.le_refl _,gQ.lt⟩
        ·exact ⟨_,rfl,by omega,gQ.lt⟩
       obtain ⟨oV,rfl,aqr,SY⟩:=hga;have Kr:I [] wr w1:=(I.a1 wr _).cn hk1 (by intro x hx;simp at hx;subst hx;exact .inr (Nat.le_refl _));have TF:cr w1 3 1 (some oV) (1 + path.length) c1 (((k:Int)::path).map (H J)):=gQ;have Ad:=TF.zj;have km:1 + path.length≤c1:=by obtain ⟨_,_,_,h,_⟩:=TF;exact h
       have P1:=C Ad;have GU:=C km;have iL:=C Kr;have nB:=C (BR.o.ah (Kr.trans (I.a1 w1 (.cells #[M (some ⟨oV,0,none⟩) (1 + path.length) c1] 22))));have Qf:=C (C7.o.ah (Kr.trans (I.a1 w1 (.cells #[M (some ⟨oV,0,none⟩) (1 + path.length) c1] 22))));have aq7:=Kr.size;clear gQ hk1 re Kr TF Ad km;simp only [de,Option.map_some];have afD:=nB.o.iJ;have BV:rows2.length + 1≤140737488355328:=by omega
       have Qx:(rows2.length + 1) * 24≤140737488355328:=by omega
       have MI:∀ u∈[Value.slice (some ⟨oV,0,none⟩) (1 + path.length) c1],u.oneCell'=true:=by intro u cy;simp at cy;subst cy;rfl
       clear afD
       go_wp2_with (at_builtin;refine yb rfl (.tmp 27) (.tmp 35) 30 rfl 22 LK _ 1 24 Tryz.underlying30 JB.o JC.o JD.o JE.o rfl (by decide) (some g2) rows2.length J1 _ rfl nB.o.iJ ⟨w1.heap.size,0,none⟩ 1 1 [M (some ⟨oV,0,none⟩) (1 + path.length) c1] rfl rfl (x4 _ _ _ _ rfl) MI (by decide) BV Qx ?hk)
       case hk=>
        intro g3 an Es kW aP il;have ajT:=nB.o.iJ.lt;have Zn:=Qf.o.iJ.lt;have TM:(w1.alloc (.cells #[M (some ⟨oV,0,none⟩) (1 + path.length) c1] 22)).heap.size=w1.heap.size + 1:=by simp
        rw [TM] at ajT Zn;have Zl:oV≠g2:=by omega
        have ajW:oV < (w1.alloc (.cells #[M (some ⟨oV,0,none⟩) (1 + path.length) c1] 22)).heap.size:=by omega
        have Yr:hr Es (some ⟨oV,0,none⟩) ((k:Int)::path):=(P1.o.bG (I.a1 w1 _) (fun _ _=> by simp)).bG aP (fun aX dC=> by cases dC;simp;exact Zl);have Oi:=nB.o.push (r:=⟨some ⟨oV,0,none⟩,c1,(k:Int)::path⟩) (c':=an) (g:=g3) aP (by rcases il with h | h;exact .inl (by rw [h]);exact .inr (by rw [TM];exact h)) (by simp only [kD.v,List.length_cons];rw [Nat.add_comm path.length 1];exact kW) Yr (by simp only [List.length_cons];have:=GU.o;omega) (fun aX dC=> by cases dC;exact ⟨ajW,by simp;exact Zl⟩);have afA:=C Oi;have wU:I [] aA Es:=((bQ.o.trans iL.o).trans (I.a1 w1 _)).cn aP (by intro x hx;simp at hx;subst hx;exact .inr sZ);have ae3:=C wU;have qW:=C (show aA.heap.size≤g3 by
         rcases il with h | h
         ·omega
         ·have:=bQ.o.size;omega)
        have Tp:∀ b,b < w1.heap.size + 1→b≠g2→b≠g3:=fun b h1 h2 h3=> by
         rcases il with h | h
         ·exact h2 (by omega)
         ·omega
        have ae9:=C (Qf.o.ak8 aP (by simp;exact k8.o.1) (fun r aO aX dC=> k8.o.2 r aO aX dC));have VP:=C (show Cj≠g3∧∀ r∈iN,∀ aX,r.bP=some aX→aX.block≠g3 from ⟨Tp Cj Zn k8.o.1,fun r aO aX dC=> Tp _ (by have:=((Qf.o.kz r aO).2.2 aX dC).1;rw [TM] at this;exact this) (k8.o.2 r aO aX dC)⟩);have jr:=C (show (rows2 ++ [(⟨some ⟨oV,0,none⟩,c1,(k:Int)::path⟩:kD)]).map kD.path=rows.map kD.path ++ (fs.take (t + 1)).map (fun p=> (k:Int)::p) by rw [List.map_append,cw.o,tf.o,List.append_assoc];rfl);have aeQ:=C (show ∀ r∈rows2 ++ [(⟨some ⟨oV,0,none⟩,c1,(k:Int)::path⟩:kD)],∀ aX,r.bP=some aX→aA.heap.size≤aX.block from fun r aO aX dC=> by
         rcases List.mem_append.1 aO with aO | aO
         ·exact sA.o r aO aX dC
         ·simp at aO;subst aO;cases dC;have:=bQ.o.size;show aA.heap.size≤oV;omega)
        clear kW aP il Oi wU Yr Tp sW MI;go_wp2;go_roundw
        case rel=> exact ⟨t + 1,g3,an,_,by omega,by go_num,by rw [List.length_append];rfl,jr.o,afA.o,ae3.o,qW.o,aeQ.o,ae9.o,VP.o.1,VP.o.2⟩
        case measure=> simp [intOf];omega
     ·obtain rfl:t=fs.length:=by omega
      rw [List.take_length] at cw;have afG:=C (show rows2.map kD.path=[]::oH 0 ((MRe.al kids).take (k + 1)) by rw [cw.o,QA.o,dP.o];rfl);go_wp2;go_roundw
      case rel=> exact ⟨k + 1,g2,J1,rows2,by omega,by go_num,rfl,afG.o,BR.o,bQ.o,sZ,sA.o⟩
      case measure=> simp [intOf];omega
   ·obtain rfl:k=kids.length:=by omega
    have fB:rows.map kD.path=R:=by rw [QA.o,dW.o,show (MRe.al kids).take kids.length=MRe.al kids by rw [←MRe.ee kids,List.take_length]]
    go_wp2;go_ret;exact ⟨g,c,rows,by rw [show R.length=rows.length by rw [←fB,List.length_map]];rfl,fB,ly.o,aZ.o.trans cX.o,Nat.le_trans aZ.o.size fe.o,fun r aO aX dC=> Nat.le_trans aZ.o.size (vE.o r aO aX dC)⟩
def ob (op:Int):Int × Int:=
 if op=2∨op=3 then (2,-1) else if op=4∨op=5∨op=7∨op=8∨op=9 then (1,1) else if op=10 then (2,2) else (0,0)
theorem anc (op:Int) (w:World):
  Calls Tryz.prog 138 #[H J op] w fun e w'=> e=.returned (.tuple #[H J (ob op).1,H J (ob op).2])∧w=w':=by
 obtain ⟨p,hp⟩:∃ p,p=ob op:=⟨_,rfl⟩;rw [←hp];unfold ob at hp;have eg:=C hp;clear hp
 by_cases hs:op=2∨op=3∨op=4∨op=5∨op=7∨op=8∨op=9∨op=10
 ·rcases hs with rfl | rfl | rfl | rfl | rfl | rfl | rfl | rfl
  all_goals
   go_enter Tryz.func138,Tryz.ntmps138
   go_wp2
   go_ret2
   exact ⟨by rw [eg.o];rfl,rfl⟩
 ·have h2:(op==2)=false:=by simp;omega
  have h3:(op==3)=false:=by simp;omega
  have h4:(op==4)=false:=by simp;omega
  have h5:(op==5)=false:=by simp;omega
  have h7:(op==7)=false:=by simp;omega
  have ix:(op==8)=false:=by simp;omega
  have lg:(op==9)=false:=by simp;omega
  have pZ:(op==10)=false:=by simp;omega
  have BR:=C (show p=(0,0) by rw [eg.o,if_neg (by omega),if_neg (by omega),if_neg (by omega)]);clear eg hs;go_enter Tryz.func138,Tryz.ntmps138
  go_wp2
  go_ret2
  exact ⟨by rw [BR.o];rfl,rfl⟩
def nE (top:Int) (CP:Option Int) (s:Int × Int):Bool:=decide (s.1 < 0) || (decide (s.2 < s.1) || (decide (top < s.2) || (match CP with | none=> false | some h=> decide (s.1≤h + 1))))
def vo (top:Int):Option Int→List (Int × Int)→Bool
 | _,[]=> true
 | CP,s::r=> !nE top CP s && vo top (some s.2) r
def tE (l:List (Int × Int)) (top:Int):Bool:=decide (l.length≤64) && vo top none l
def rT (l:List (Int × Int)):Nat→Option Int
 | 0=> none
 | k + 1=> (l[k]?).map Prod.snd
theorem acP {l:List (Int × Int)} {k j:Nat} (h:k=j + 1) (c8:j < l.length):rT l k=some (l[j]'c8).2:=by
 subst h
 show (l[j]?).map Prod.snd=_
 rw [List.getElem?_eq_getElem c8];rfl
theorem ann (sa:Option Addr) (sc:Nat) (set:List (Int × Int)) (top:Int) (w:World) (hs:eK w sa sc set) (ht:top≤2000000):
  Calls Tryz.prog 139 #[M sa set.length sc,H J top] w fun e w'=> e=.returned (F (tE set top))∧I [] w w':=by
 obtain ⟨R,aC⟩:∃ R,R=tE set top:=⟨_,rfl⟩;rw [←aC];unfold tE at aC;have cW:=C hs;have hcap:=hs.cap;have fc:=hs.le;unfold maxLen at hcap;clear hs
 by_cases h64:set.length≤64
 ·have aD:=C (show R=vo top none set by rw [aC];simp [h64]);have pR:=C ht;clear aC ht;go_enter Tryz.func139,Tryz.ntmps139
  go_wp2
  go_loopw [5] (fun i wr=> ∃ k:Nat,k≤set.length∧i=H J k∧vo top (rT set k) (set.drop k)=vo top none set∧(∀ h,rT set k=some h→0≤h∧h≤2000000)∧I [] w wr) (fun i _=> set.length - (intOf i).toNat)
  case atStart=> exact ⟨0,Nat.zero_le _,rfl,rfl,(fun h hh=> by cases hh),I.refl _ _⟩
  case round=>
   obtain ⟨k,gC,rfl,DQ,Lp,ck⟩:=hrel;have cX:=C ck;have Je:=C DQ;have EU:=C Lp;obtain ⟨lK,yS⟩:∃ lK,lK=wr:=⟨_,rfl⟩;clear ck DQ Lp
   by_cases aQ:k < set.length
   ·obtain ⟨b,off,rfl,ad,hx⟩:=(cW.o.ah cX.o).at_ (by omega);obtain ⟨bg,aV⟩:=hx k aQ;have dB:set.drop k=set[k]::set.drop (k + 1):=List.drop_eq_getElem_cons aQ;have hg:=Je.o;rw [dB,vo] at hg;have hp1:rT set (k + 1)=some set[k].2:=by show (set[k]?).map Prod.snd=_;rw [List.getElem?_eq_getElem aQ];rfl
    obtain ⟨s,An⟩:∃ s,s=set[k]:=⟨_,rfl⟩;rw [←An] at bg aV hg hp1;obtain ⟨lo,hi⟩:=s;have fe:=C hg;have xv:=C hp1;have Cv:(k:Int) < (set.length:Int):=by omega
    have je:(0:Int)≤(k:Int):=by omega
    have hM:=C hx;clear hg hp1 dB An hx ad;simp only at bg aV
    by_cases q1:lo < 0
    ·have d1:decide (lo < 0)=true:=by simpa using q1
     have qi:=C (show nE top (rT set k) (lo,hi)=true by simp [nE,q1]);go_wp2_with fail
     refine rg (S:=fun w'=> w'.cell? ⟨b,off + k * 2,none⟩=some (H J lo)∧w'.cell? ⟨b,off + k * 2 + 1,none⟩=some (H J hi)) (fun _ k=> ⟨k.c bg,k.c aV⟩) fun bM aF=> ?_;refine ag 0 ?_;refine ag 1 ?_;refine ag 2 ?_;refine ag 3 ?_;refine ag 4 ?_;refine ag 5 ?_;refine ag 6 ?_;refine c9 7 ?_;refine c9 8 ?_;refine c9 9 ?_;refine c9 10 ?_;refine c9 11 ?_;refine c9 12 ?_;refine c9 13 ?_;refine c9 14 ?_;refine c9 15 ?_;refine c9 16 ?_;refine c9 17 ?_;refine ag 18 ?_;refine ag 19 ?_;refine c9 20 ?_;refine c9 21 ?_;refine c9 22 ?_;refine c9 23 ?_;refine c9 24 ?_;refine c9 25 ?_;refine c9 26 ?_;refine ag 27 ?_;refine ag 28 ?_;refine c9 29 ?_;refine c9 30 ?_;refine c9 31 ?_;refine c9 32 ?_;refine c9 33 ?_;refine c9 34 ?_;refine c9 35 ?_;refine c9 36 ?_;refine c9 37 ?_;refine c9 38 ?_;refine c9 39 ?_;refine c9 40 ?_;refine c9 41 ?_;refine c9 42 ?_;refine c9 43 ?_;refine c9 44 ?_;refine c9 45 ?_;refine ag 46 ?_;refine dR ?_;clear aF;go_wp2;go_ret;exact ⟨by rw [aD.o,←fe.o,qi.o];rfl,cX.o.drew⟩
    ·have d1:decide (lo < 0)=false:=by simpa using q1
     by_cases q2:hi < lo
     ·have d2:decide (hi < lo)=true:=by simpa using q2
      have qi:=C (show nE top (rT set k) (lo,hi)=true by simp [nE,q2]);go_wp2_with fail
      refine rg (S:=fun w'=> w'.cell? ⟨b,off + k * 2,none⟩=some (H J lo)∧w'.cell? ⟨b,off + k * 2 + 1,none⟩=some (H J hi)) (fun _ k=> ⟨k.c bg,k.c aV⟩) fun bM aF=> ?_;refine ag 0 ?_;refine ag 1 ?_;refine ag 2 ?_;refine ag 3 ?_;refine ag 4 ?_;refine ag 5 ?_;refine ag 6 ?_;refine ag 7 ?_;refine ag 8 ?_;refine ag 9 ?_;refine ag 10 ?_;refine ag 11 ?_;refine ag 12 ?_;refine ag 13 ?_;refine ag 14 ?_;refine ag 15 ?_;refine ag 16 ?_;refine ag 17 ?_;refine ag 18 ?_;refine ag 19 ?_;refine c9 20 ?_;refine c9 21 ?_;refine c9 22 ?_;refine c9 23 ?_;refine c9 24 ?_;refine c9 25 ?_;refine c9 26 ?_;refine ag 27 ?_;refine ag 28 ?_;refine c9 29 ?_;refine c9 30 ?_;refine c9 31 ?_;refine c9 32 ?_;refine c9 33 ?_;refine c9 34 ?_;refine c9 35 ?_;refine c9 36 ?_;refine c9 37 ?_;refine c9 38 ?_;refine c9 39 ?_;refine c9 40 ?_;refine c9 41 ?_;refine c9 42 ?_;refine c9 43 ?_;refine c9 44 ?_;refine c9 45 ?_;refine ag 46 ?_;refine dR ?_;clear aF;go_wp2;go_ret;exact ⟨by rw [aD.o,←fe.o,qi.o];rfl,cX.o.drew⟩
     ·have d2:decide (hi < lo)=false:=by simpa using q2
      by_cases kr:top < hi
      ·have bL:decide (top < hi)=true:=by simpa using kr
       have qi:=C (show nE top (rT set k) (lo,hi)=true by simp [nE,kr]);go_wp2_with fail
       refine rg (S:=fun w'=> w'.cell? ⟨b,off + k * 2,none⟩=some (H J lo)∧w'.cell? ⟨b,off + k * 2 + 1,none⟩=some (H J hi)) (fun _ k=> ⟨k.c bg,k.c aV⟩) fun bM aF=> ?_;refine ag 0 ?_;refine ag 1 ?_;refine ag 2 ?_;refine ag 3 ?_;refine ag 4 ?_;refine ag 5 ?_;refine ag 6 ?_;refine ag 7 ?_;refine ag 8 ?_;refine ag 9 ?_;refine ag 10 ?_;refine ag 11 ?_;refine ag 12 ?_;refine ag 13 ?_;refine ag 14 ?_;refine ag 15 ?_;refine ag 16 ?_;refine ag 17 ?_;refine ag 18 ?_;refine ag 19 ?_;refine ag 20 ?_;refine ag 21 ?_;refine ag 22 ?_;refine ag 23 ?_;refine ag 24 ?_;refine ag 25 ?_;refine ag 26 ?_;refine ag 27 ?_;refine ag 28 ?_;refine c9 29 ?_;refine c9 30 ?_;refine c9 31 ?_;refine c9 32 ?_;refine c9 33 ?_;refine c9 34 ?_;refine c9 35 ?_;refine c9 36 ?_;refine c9 37 ?_;refine c9 38 ?_;refine c9 39 ?_;refine c9 40 ?_;refine c9 41 ?_;refine c9 42 ?_;refine c9 43 ?_;refine c9 44 ?_;refine c9 45 ?_;refine ag 46 ?_;refine dR ?_;clear aF;go_wp2;go_ret;exact ⟨by rw [aD.o,←fe.o,qi.o];rfl,cX.o.drew⟩
      ·have bL:decide (top < hi)=false:=by simpa using kr
       by_cases rK:k=0
       ·have ie:¬ 0 < k:=by omega
        have cU:¬ (0:Int) < (k:Int):=by omega
        have qi:=C (show nE top (rT set k) (lo,hi)=false by rw [rK];simp [nE,q1,q2,kr,rT]);have lW:=C rK;clear rK;go_wp2_with fail
        refine rg (S:=fun w'=> w'.cell? ⟨b,off + k * 2,none⟩=some (H J lo)∧w'.cell? ⟨b,off + k * 2 + 1,none⟩=some (H J hi)) (fun _ k=> ⟨k.c bg,k.c aV⟩) fun bM aF=> ?_;refine ag 0 ?_;refine ag 1 ?_;refine ag 2 ?_;refine ag 3 ?_;refine ag 4 ?_;refine ag 5 ?_;refine ag 6 ?_;refine ag 7 ?_;refine ag 8 ?_;refine ag 9 ?_;refine ag 10 ?_;refine ag 11 ?_;refine ag 12 ?_;refine ag 13 ?_;refine ag 14 ?_;refine ag 15 ?_;refine ag 16 ?_;refine ag 17 ?_;refine ag 18 ?_;refine ag 19 ?_;refine ag 20 ?_;refine ag 21 ?_;refine ag 22 ?_;refine ag 23 ?_;refine ag 24 ?_;refine ag 25 ?_;refine ag 26 ?_;refine ag 27 ?_;refine ag 28 ?_;refine ag 29 ?_;refine ag 30 ?_;refine ag 31 ?_;refine c9 32 ?_;refine c9 33 ?_;refine c9 34 ?_;refine c9 35 ?_;refine c9 36 ?_;refine c9 37 ?_;refine c9 38 ?_;refine c9 39 ?_;refine c9 40 ?_;refine c9 41 ?_;refine c9 42 ?_;refine c9 43 ?_;refine c9 44 ?_;refine ag 45 ?_;refine ag 46 ?_;refine dR ?_;clear aF;go_wp2;go_roundw
        case rel=> exact ⟨k + 1,by omega,by go_num,by rw [xv.o,←fe.o,qi.o];rfl,(fun h hh=> by rw [xv.o] at hh;cases hh;have:=pR.o;omega),cX.o.drew⟩
        case measure=> simp [intOf];omega
       ·obtain ⟨j,c8⟩:∃ j,k=j + 1:=⟨k - 1,by omega⟩;have ie:0 < k:=by omega
        have cU:(0:Int) < (k:Int):=by omega
        have tu:j < set.length:=by omega
        have a6:=(hM.o j tu).2;have yL:=acP c8 tu;obtain ⟨s,An⟩:∃ s,s=set[j]'tu:=⟨_,rfl⟩;rw [←An] at a6 yL;obtain ⟨amr,ph⟩:=s;obtain ⟨K4,ajZ⟩:=EU.o ph yL;simp only at a6;have Jn:=C yL;have mN:IntKind.i64.wrap ((k:Int) - 1)=(j:Int):=by rw [IntWalk.i64_in _ (by omega)];omega
        have CC:IntKind.i64.wrap (ph + 1)=ph + 1:=IntWalk.i64_in _ (by omega);have l6:(0:Int)≤(j:Int):=by omega
        have hj1:(j:Int) < (set.length:Int):=by omega
        clear An yL c8 rK
        by_cases ml:lo≤ph + 1
        ·have bO:decide (lo≤ph + 1)=true:=by simpa using ml
         have qi:=C (show nE top (rT set k) (lo,hi)=true by rw [Jn.o];simp [nE,ml]);go_wp2_with fail
         refine rg (S:=fun w'=> w'.cell? ⟨b,off + k * 2,none⟩=some (H J lo)∧w'.cell? ⟨b,off + k * 2 + 1,none⟩=some (H J hi)∧w'.cell? ⟨b,off + j * 2 + 1,none⟩=some (H J ph)) (fun _ k=> ⟨k.c bg,k.c aV,k.c a6⟩) fun bM aF=> ?_;refine ag 0 ?_;refine ag 1 ?_;refine ag 2 ?_;refine ag 3 ?_;refine ag 4 ?_;refine ag 5 ?_;refine ag 6 ?_;refine ag 7 ?_;refine ag 8 ?_;refine ag 9 ?_;refine ag 10 ?_;refine ag 11 ?_;refine ag 12 ?_;refine ag 13 ?_;refine ag 14 ?_;refine ag 15 ?_;refine ag 16 ?_;refine ag 17 ?_;refine ag 18 ?_;refine ag 19 ?_;refine ag 20 ?_;refine ag 21 ?_;refine ag 22 ?_;refine ag 23 ?_;refine ag 24 ?_;refine ag 25 ?_;refine ag 26 ?_;refine ag 27 ?_;refine ag 28 ?_;refine ag 29 ?_;refine ag 30 ?_;refine ag 31 ?_;refine ag 32 ?_;refine ag 33 ?_;refine ag 34 ?_;refine ag 35 ?_;refine ag 36 ?_;refine ag 37 ?_;refine ag 38 ?_;refine ag 39 ?_;refine ag 40 ?_;refine ag 41 ?_;refine ag 42 ?_;refine ag 43 ?_;refine ag 44 ?_;refine ag 45 ?_;refine ag 46 ?_;refine dR ?_;clear aF;go_wp2;go_ret;exact ⟨by rw [aD.o,←fe.o,qi.o];rfl,cX.o.drew⟩
        ·have bO:decide (lo≤ph + 1)=false:=by simpa using ml
         have qi:=C (show nE top (rT set k) (lo,hi)=false by rw [Jn.o];simp [nE,q1,q2,kr,ml]);go_wp2_with fail
         refine rg (S:=fun w'=> w'.cell? ⟨b,off + k * 2,none⟩=some (H J lo)∧w'.cell? ⟨b,off + k * 2 + 1,none⟩=some (H J hi)∧w'.cell? ⟨b,off + j * 2 + 1,none⟩=some (H J ph)) (fun _ k=> ⟨k.c bg,k.c aV,k.c a6⟩) fun bM aF=> ?_;refine ag 0 ?_;refine ag 1 ?_;refine ag 2 ?_;refine ag 3 ?_;refine ag 4 ?_;refine ag 5 ?_;refine ag 6 ?_;refine ag 7 ?_;refine ag 8 ?_;refine ag 9 ?_;refine ag 10 ?_;refine ag 11 ?_;refine ag 12 ?_;refine ag 13 ?_;refine ag 14 ?_;refine ag 15 ?_;refine ag 16 ?_;refine ag 17 ?_;refine ag 18 ?_;refine ag 19 ?_;refine ag 20 ?_;refine ag 21 ?_;refine ag 22 ?_;refine ag 23 ?_;refine ag 24 ?_;refine ag 25 ?_;refine ag 26 ?_;refine ag 27 ?_;refine ag 28 ?_;refine ag 29 ?_;refine ag 30 ?_;refine ag 31 ?_;refine ag 32 ?_;refine ag 33 ?_;refine ag 34 ?_;refine ag 35 ?_;refine ag 36 ?_;refine ag 37 ?_;refine ag 38 ?_;refine ag 39 ?_;refine ag 40 ?_;refine ag 41 ?_;refine ag 42 ?_;refine ag 43 ?_;refine ag 44 ?_;refine ag 45 ?_;refine ag 46 ?_;refine dR ?_;clear aF;go_wp2;go_roundw
         case rel=> exact ⟨k + 1,by omega,by go_num,by rw [xv.o,←fe.o,qi.o];rfl,(fun h hh=> by rw [xv.o] at hh;cases hh;have:=pR.o;omega),cX.o.drew⟩
         case measure=> simp [intOf];omega
   ·obtain rfl:k=set.length:=by omega
    have ny:=C (show R=true by rw [aD.o,←Je.o,List.drop_length,vo]);go_wp2;go_ret;exact ⟨by rw [ny.o];rfl,cX.o⟩
 ·have aD:=C (show R=false by rw [aC];simp [h64]);clear aC ht;go_enter Tryz.func139,Tryz.ntmps139
  go_wp2;go_ret;exact ⟨by rw [aD.o];rfl,I.refl _ _⟩
def pY (op lo hi:Int) (nk:Nat):Bool:=decide (op < 0) || (decide (11 < op) || (decide ((nk:Int) < lo) || (decide (0≤hi) && decide (hi < (nk:Int)))))
def nI (mn mx mode:Int):Bool:=decide (mn < 0) || (decide (32 < mn) || (decide (mx < -1) || (decide (mx=0) || (decide (32 < mx) || ((decide (0 < mx) && decide (mx < mn)) || (decide (mode < 0) || decide (2 < mode)))))))
def rD (mn mx mode:Int):Bool:=decide (mn≠0) || (decide (mx≠0) || decide (mode≠0))
def sf (op:Int) (ib:Bool) (ns:Nat):Bool:=(op==1 && !ib) || (op !=1 && decide (0 < ns))
def lN (op n caps:Int):Bool:=if op=5∨op=6∨op=10 then decide (n < 1) || decide (caps < n) else if op=11 then decide (n < 0) || decide (5 < n) else decide (n≠0)
def lO (op:Int) (ns nk:Nat) (mn mx mode n:Int) (neg:Bool) (caps:Int) (ib:Bool):Bool:=
 !(pY op (ob op).1 (ob op).2 nk) && (!(sf op ib ns) && (!(if op=4 then nI mn mx mode else rD mn mx mode) && (!(lN op n caps) && (!neg || (op==7 || op==8)))))
theorem am8 (m:MRe) (caps top:Int) (w:World) (aj:m.aK w) (ht:top≤2000000):
  Calls Tryz.prog 110 #[m.val,H J caps,H J top] w fun e w'=> e=.returned (F (lO m.ab.op m.ab.set.length m.ab.kids.length m.ab.mn m.ab.mx m.ab.mode m.ab.n m.ab.neg caps (tE m.ab.set top)))∧I [] w w':=by
 obtain ⟨R,aC⟩:∃ R,R=lO m.ab.op m.ab.set.length m.ab.kids.length m.ab.mn m.ab.mx m.ab.mode m.ab.n m.ab.neg caps (tE m.ab.set top):=⟨_,rfl⟩;rw [←aC];obtain ⟨op,sa,sc,set,ka,kc,kids,mn,mx,mode,n,neg⟩:=m;replace aC:R=lO op set.length (MRe.al kids).length mn mx mode n neg caps (tE set top):=aC;rw [MRe.ee] at aC;unfold lO at aC;have fp:=C aj.nV;have hcap:=aj.ch.cap;have fc:=aj.ch.le;unfold maxLen at hcap;simp only [MRe.val];obtain ⟨U,aA,ar,c1,c2,an,av,ay,ax,az,dw,aB,aZ⟩:=tD w op sa sc set ka kc kids mn mx mode n neg;obtain ⟨lo,kH⟩:∃ lo,lo=(ob op).1:=⟨_,rfl⟩;obtain ⟨hi,ts⟩:∃ hi,hi=(ob op).2:=⟨_,rfl⟩;rw [←kH,←ts] at aC;have EN:=C kH;have EI:=C ts;have dW:=C aC;clear kH ts aj aC;go_enter Tryz.func110,Tryz.ntmps110
 go_upto_region 1 with fail
 rw [←dw.o,←aB.o];go_wp2_with fail
 refine Calls.mono (anc op aA) ?_;rintro e w' ⟨rfl,rfl⟩;rw [←EN.o,←EI.o];go_upto_region 2 with fail
 go_cut [40] (fun anD db=> ∃ b:Bool,anD=F b∧pY op lo hi kids.length=b∧aA=db)
 case first=>
  by_cases h1:op < 0
  ·go_wp2;go_meet;exact ⟨true,rfl,by simp [pY,h1] <;> omega,rfl⟩
  ·by_cases h2:11 < op
   ·go_wp2;go_meet;exact ⟨true,rfl,by simp [pY,h2] <;> omega,rfl⟩
   ·by_cases h3:(kids.length:Int) < lo
    ·go_wp2;go_meet;exact ⟨true,rfl,by simp [pY,h3] <;> omega,rfl⟩
    ·by_cases h4:0≤hi
     ·by_cases R9:hi < (kids.length:Int)
      ·go_wp2;go_meet;exact ⟨true,rfl,by simp [pY,h4,R9] <;> omega,rfl⟩
      ·go_wp2;go_meet;exact ⟨false,rfl,by simp [pY,h1,h2,h3,h4,R9] <;> omega,rfl⟩
     ·go_wp2;go_meet;exact ⟨false,rfl,by simp [pY,h1,h2,h3] <;> omega,rfl⟩
 case rest=>
 obtain ⟨b,rfl,NY,rfl⟩:=hcut
 cases b with
 | true=>
  have aD:=C (show R=false by rw [dW.o,NY];rfl);clear NY;go_wp2;go_ret;exact ⟨by rw [aD.o];rfl,aZ.o⟩
 | false=>
 have gN:=C (show R=(!(sf op (tE set top) set.length) && (!(if op=4 then nI mn mx mode else rD mn mx mode) && (!(lN op n caps) && (!neg || (op==7 || op==8))))) by rw [dW.o,NY];rfl);clear NY;obtain ⟨ib,dF⟩:∃ ib,ib=tE set top:=⟨_,rfl⟩;have hL:=C (show ∀ W,I [] w W→Calls Tryz.prog 139 #[M sa set.length sc,H J top] W fun e w'=> e=.returned (F ib)∧I [] W w' from fun W h=> by rw [dF];exact ann sa sc set top W (fp.o.ah h) ht);have cw:=C (show R=(!(sf op ib set.length) && (!(if op=4 then nI mn mx mode else rD mn mx mode) && (!(lN op n caps) && (!neg || (op==7 || op==8))))) by rw [gN.o,dF]);clear dF;go_upto_region 4 with fail
 go_cut [61] (fun anG db=> ∃ b:Bool,anG=F b∧sf op ib set.length=b∧I [] aA db)
 case first=>
  as_aux_lemma=>
  by_cases h1:op=1
  ·subst h1;go_wp2_with fail
   refine Calls.mono (hL.o _ aZ.o) ?_;rintro e w2 ⟨rfl,hk2⟩;have aU:=C hk2;have bg:=hk2.c ar;have aV:=hk2.c c1;clear hk2
   cases ib with
   | true=>
    go_wp2;go_meet;exact ⟨false,rfl,rfl,aU.o⟩
   | false=>
    go_wp2;go_meet;exact ⟨true,rfl,rfl,aU.o⟩
  ·have NB:(op==1)=false:=by simpa using h1
   have X8:(op !=1)=true:=by simpa using h1
   by_cases h2:0 < set.length
   ·go_wp2;go_meet;exact ⟨true,rfl,by rw [sf,NB,X8,decide_eq_true h2];rfl,I.refl _ _⟩
   ·go_wp2;go_meet;exact ⟨false,rfl,by rw [sf,NB,X8,decide_eq_false h2];rfl,I.refl _ _⟩
 case rest=>
 obtain ⟨b,rfl,z7,jI⟩:=hcut;have c4:=C (aZ.o.trans jI);obtain ⟨bK,d1,d2,bL,bO,bT,bU,bV⟩:=jI.au ar c1 c2 an av ay ax az;obtain ⟨db,aq8⟩:∃ db,db=wc:=⟨_,rfl⟩;clear jI ar c1 c2 an av ay ax az
 cases b with
 | true=>
  have aD:=C (show R=false by rw [cw.o,z7];rfl);clear z7;go_wp2;go_ret;exact ⟨by rw [aD.o];rfl,c4.o⟩
 | false=>
 have k2:=C (show R=(!(if op=4 then nI mn mx mode else rD mn mx mode) && (!(lN op n caps) && (!neg || (op==7 || op==8)))) by rw [cw.o,z7];rfl);clear z7
 by_cases h4:op=4
 ·as_aux_lemma=>
  subst h4;go_upto_region 7 with fail
  go_cut [109] (fun anw ao6=> ∃ b:Bool,anw=F b∧nI mn mx mode=b∧wc=ao6)
  case first=>
   by_cases h5:mn < 0
   ·go_wp2;go_meet;exact ⟨true,rfl,by simp [nI,h5] <;> omega,rfl⟩
   ·by_cases eW:32 < mn
    ·go_wp2;go_meet;exact ⟨true,rfl,by simp [nI,eW] <;> omega,rfl⟩
    ·by_cases h7:mx < -1
     ·go_wp2;go_meet;exact ⟨true,rfl,by simp [nI,h7] <;> omega,rfl⟩
     ·by_cases ix:mx=0
      ·subst ix;go_wp2;go_meet;exact ⟨true,rfl,by simp [nI] <;> omega,rfl⟩
      ·have Yd:(mx==0)=false:=by simpa using ix
       by_cases lg:32 < mx
       ·go_wp2;go_meet;exact ⟨true,rfl,by simp [nI,ix,lg] <;> omega,rfl⟩
       ·by_cases pZ:0 < mx
        ·by_cases h10b:mx < mn
         ·go_wp2;go_meet;exact ⟨true,rfl,by simp [nI,ix,pZ,h10b] <;> omega,rfl⟩
         ·by_cases sh:mode < 0
          ·go_wp2;go_meet;exact ⟨true,rfl,by simp [nI,ix,pZ,sh] <;> omega,rfl⟩
          ·by_cases Kh:2 < mode
           ·go_wp2;go_meet;exact ⟨true,rfl,by simp [nI,ix,pZ,Kh] <;> omega,rfl⟩
           ·go_wp2;go_meet;exact ⟨false,rfl,by simp [nI,h5,eW,h7,ix,lg,pZ,h10b,sh,Kh] <;> omega,rfl⟩
        ·by_cases Ki:mode < 0
         ·go_wp2;go_meet;exact ⟨true,rfl,by simp [nI,ix,Ki] <;> omega,rfl⟩
         ·by_cases h14:2 < mode
          ·go_wp2;go_meet;exact ⟨true,rfl,by simp [nI,ix,h14] <;> omega,rfl⟩
          ·go_wp2;go_meet;exact ⟨false,rfl,by simp [nI,h5,eW,h7,ix,lg,Ki,h14] <;> omega,rfl⟩
  case rest=>
  obtain ⟨b,rfl,FA,rfl⟩:=hcut
  cases b with
  | true=>
   have aD:=C (show R=false by rw [k2.o,if_pos rfl,FA];rfl);clear FA;go_wp2;go_ret;exact ⟨by rw [aD.o];rfl,c4.o⟩
  | false=>
   replace k2:=C (show R=(!(lN 4 n caps) && (!neg || false)) by rw [k2.o,if_pos rfl,FA];rfl);clear FA
   by_cases hn:n=0
   ·subst hn
    cases neg with
    | true=>
     have aD:=C (show R=false by rw [k2.o];simp [lN]);go_wp2;go_ret;exact ⟨by rw [aD.o];rfl,c4.o⟩
    | false=>
     have aD:=C (show R=true by rw [k2.o];simp [lN]);go_wp2;go_ret;exact ⟨by rw [aD.o];rfl,c4.o⟩
   ·have hnb:(n==0)=false:=by simpa using hn
    have DV:(n !=0)=true:=by simpa using hn
    have aD:=C (show R=false by rw [k2.o];simp [lN,hn]);go_wp2;go_ret;exact ⟨by rw [aD.o];rfl,c4.o⟩
 ·as_aux_lemma=>
  have R9:(op==4)=false:=by simpa using h4
  by_cases g1:mn=0
  ·subst g1
   by_cases g2:mx=0
   ·subst g2
    by_cases g3:mode=0
    ·subst g3;replace k2:=C (show R=(!(lN op n caps) && (!neg || (op==7 || op==8))) by rw [k2.o,if_neg h4];rfl)
     by_cases eY:op=5∨op=6∨op=10
     ·rcases eY with rfl | rfl | rfl
      all_goals
       by_cases aj:n < 1
       ·have aD:=C (show R=false by rw [k2.o];simp [lN,aj]);go_wp2;go_ret;exact ⟨by rw [aD.o];rfl,c4.o⟩
       ·by_cases cV:caps < n
        ·have aD:=C (show R=false by rw [k2.o];simp [lN,cV]);go_wp2;go_ret;exact ⟨by rw [aD.o];rfl,c4.o⟩
        ·have Gb:1≤n:=by omega
         have Ub:n≤caps:=by omega
         cases neg with
         | true=>
          have aD:=C (show R=false by rw [k2.o];simp [lN]);go_wp2;go_ret;exact ⟨by rw [aD.o];rfl,c4.o⟩
         | false=>
          have aD:=C (show R=true by rw [k2.o];simp [lN,Gb,Ub]);go_wp2;go_ret;exact ⟨by rw [aD.o];rfl,c4.o⟩
     ·by_cases gA:op=11
      ·subst gA
       by_cases aj:n < 0
       ·have aD:=C (show R=false by rw [k2.o];simp [lN,aj]);go_wp2;go_ret;exact ⟨by rw [aD.o];rfl,c4.o⟩
       ·by_cases cV:5 < n
        ·have aD:=C (show R=false by rw [k2.o];simp [lN,cV]);go_wp2;go_ret;exact ⟨by rw [aD.o];rfl,c4.o⟩
        ·have Gb:0≤n:=by omega
         have Ub:n≤5:=by omega
         cases neg with
         | true=>
          have aD:=C (show R=false by rw [k2.o];simp [lN]);go_wp2;go_ret;exact ⟨by rw [aD.o];rfl,c4.o⟩
         | false=>
          have aD:=C (show R=true by rw [k2.o];simp [lN,Gb,Ub]);go_wp2;go_ret;exact ⟨by rw [aD.o];rfl,c4.o⟩
      ·have dS:(op==5)=false:=by simp;omega
       have dU:(op==6)=false:=by simp;omega
       have apH:(op==10)=false:=by simp;omega
       have apI:(op==11)=false:=by simp;omega
       by_cases hn:n=0
       ·subst hn;replace k2:=C (show R=(!neg || (op==7 || op==8)) by rw [k2.o,lN,if_neg eY,if_neg gA];simp)
        cases neg with
        | false=>
         have aD:=C (show R=true by rw [k2.o];rfl);go_wp2;go_ret;exact ⟨by rw [aD.o];rfl,c4.o⟩
        | true=>
         by_cases o7:op=7
         ·subst o7;have aD:=C (show R=true by rw [k2.o];rfl);go_wp2;go_ret;exact ⟨by rw [aD.o];rfl,c4.o⟩
         ·by_cases Iu:op=8
          ·subst Iu;have aD:=C (show R=true by rw [k2.o];rfl);go_wp2;go_ret;exact ⟨by rw [aD.o];rfl,c4.o⟩
          ·have dT:(op==7)=false:=by simpa using o7
           have Rw:(op==8)=false:=by simpa using Iu
           have aD:=C (show R=false by rw [k2.o,dT,Rw];rfl);go_wp2;go_ret;exact ⟨by rw [aD.o];rfl,c4.o⟩
       ·have hnb:(n==0)=false:=by simpa using hn
        have DV:(n !=0)=true:=by simpa using hn
        have aD:=C (show R=false by rw [k2.o,lN,if_neg eY,if_neg gA];simp [hn]);go_wp2;go_ret;exact ⟨by rw [aD.o];rfl,c4.o⟩
    ·have DP:(mode !=0)=true:=by simpa using g3
     have aD:=C (show R=false by rw [k2.o,if_neg h4];simp [rD,g3]);go_wp2;go_ret;exact ⟨by rw [aD.o];rfl,c4.o⟩
   ·have DP:(mx !=0)=true:=by simpa using g2
    have aD:=C (show R=false by rw [k2.o,if_neg h4];simp [rD,g2]);go_wp2;go_ret;exact ⟨by rw [aD.o];rfl,c4.o⟩
  ·have DP:(mn !=0)=true:=by simpa using g1
   have aD:=C (show R=false by rw [k2.o,if_neg h4];simp [rD,g1]);go_wp2;go_ret;exact ⟨by rw [aD.o];rfl,c4.o⟩
theorem Xh {top:Int} {CP:Option Int} {s:Int × Int} (h:nE top CP s=false):0≤s.1∧s.1≤s.2∧s.2≤top:=by
 unfold nE at h;simp only [Bool.or_eq_false_iff,decide_eq_false_iff_not] at h;omega
theorem ahZ {top p:Int} {s:Int × Int} (h:nE top (some p) s=false):p + 2≤s.1:=by
 unfold nE at h;simp only [Bool.or_eq_false_iff,decide_eq_false_iff_not] at h;omega
theorem adz {top:Int} (ht:top≤1114111):∀ (l:List (Int × Int)) (CP:Option Int),vo top CP l=true→lZ l
 | [],_,_=> trivial
 | [s],CP,h=> by
  rw [vo,Bool.and_eq_true,Bool.not_eq_true'] at h;have h1:=Xh h.1;exact ⟨h1.1,h1.2.1,by omega⟩
 | s::t::r,CP,h=> by
  rw [vo,Bool.and_eq_true,Bool.not_eq_true'] at h;have h1:=Xh h.1;have ih:=adz ht (t::r) (some s.2) h.2;have h2:=h.2;rw [vo,Bool.and_eq_true,Bool.not_eq_true'] at h2;exact ⟨h1.1,h1.2.1,ahZ h2.1,ih⟩
end Go.Proofs.YtjnlkjlbejelgaaGreat
