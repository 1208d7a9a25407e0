/- Part of the proof. No condition: every lemma says its own. -/
import Derived.Test.YtjnlkjlbejelgaaGreatRSPao
namespace Go.Proofs.YtjnlkjlbejelgaaGreat
open Go.RowKit
open Go.Value renaming int→H,slice→M,bool→F
open Go.IntKind renaming i64→J
set_option maxRecDepth 100000
set_option maxHeartbeats 16000000
theorem ai9 {op mn mx mode n caps top:Int} {set:List (Int × Int)} {nk:Nat} {neg:Bool} (ht:top≤1114111) (h:lO op set.length nk mn mx mode n neg caps (tE set top)=true):r5 op set nk mn mx mode n neg:=by
 unfold lO at h;simp only [Bool.and_eq_true,Bool.not_eq_true'] at h;obtain ⟨h1,h2,h3,h4,h5⟩:=h;simp only [pY,Bool.or_eq_false_iff,Bool.and_eq_false_iff,decide_eq_false_iff_not] at h1;obtain ⟨a1,a2,a3,a4⟩:=h1;have hk:∀ x y:Int,ob op=(x,y)→x≤nk∧(y < 0∨(nk:Int)≤y):=fun x y e=> by
  rw [e] at a3 a4
  constructor <;> omega
 have Bm:(op=4∨op=5∨op=7∨op=8∨op=9→ob op=(1,1))∧(op=2∨op=3→ob op=(2,-1))∧(op=10→ob op=(2,2))∧(op=0∨op=1∨op=6∨op=11→ob op=(0,0)):=by
  refine ⟨fun h=> ?_,fun h=> ?_,fun h=> ?_,fun h=> ?_⟩
  ·rcases h with rfl | rfl | rfl | rfl | rfl <;> rfl
  ·rcases h with rfl | rfl <;> rfl
  ·subst h;rfl
  ·rcases h with rfl | rfl | rfl | rfl <;> rfl
 obtain ⟨v1,v2,v3,v4⟩:=Bm;have hs:(op=1→tE set top=true)∧(op≠1→set=[]):=by
  by_cases cR:op=1
  ·refine ⟨fun _=> ?_,fun h=> absurd cR h⟩;subst cR
   cases hq:tE set top with
   | true=> rfl
   | false=> rw [hq] at h2;cases h2
  ·refine ⟨fun h=> absurd h cR,fun _=> ?_⟩;have aV:(op==1)=false:=by simpa using cR
   have a6:(op !=1)=true:=by simpa using cR
   rw [sf,aV,a6] at h2
   have:decide (0 < set.length)=false:=h2
   simp only [decide_eq_false_iff_not] at this;exact List.eq_nil_of_length_eq_zero (by omega)
 have aO:op=4→nI mn mx mode=false:=fun h=> by rw [if_pos h] at h3;exact h3
 have hn:op≠4→rD mn mx mode=false:=fun h=> by rw [if_neg h] at h3;exact h3
 constructor
 ·omega
 ·intro h;have:=hk 1 1 (v1 h);omega
 ·intro h;have:=hk 2 (-1) (v2 h);omega
 ·intro h;have:=hk 2 2 (v3 h);omega
 ·intro h;have:=hk 0 0 (v4 h);omega
 ·intro h
  have:=aO h
  simp only [nI,Bool.or_eq_false_iff,Bool.and_eq_false_iff,decide_eq_false_iff_not] at this;omega
 ·intro h
  have:=hn h
  simp only [rD,Bool.or_eq_false_iff,decide_eq_false_iff_not] at this;omega
 ·intro h
  have:=hs.1 h
  unfold tE at this;simp only [Bool.and_eq_true,decide_eq_true_eq] at this;exact ⟨adz ht _ _ this.2,this.1⟩
 ·exact hs.2
 ·intro h;rw [lN,if_pos h] at h4;simp only [Bool.or_eq_false_iff,decide_eq_false_iff_not] at h4;omega
 ·intro h;rw [lN,if_neg (by omega),if_pos h] at h4;simp only [Bool.or_eq_false_iff,decide_eq_false_iff_not] at h4;omega
 ·intro h;rw [lN,if_neg (by omega),if_neg (by omega)] at h4;simp only [decide_eq_false_iff_not] at h4;omega
 ·intro h;subst h;simp only [Bool.not_true,Bool.false_or,Bool.or_eq_true,beq_iff_eq] at h5;exact h5
def Gl (caps top:Int) (t:Tree):Bool:=lO t.op t.set.length t.kids.length t.mn t.mx t.mode t.n t.neg caps (tE t.set top)
mutual
def j2 (caps top:Int):Tree→Bool
 | .node op set kids mn mx mode n neg=> Gl caps top (.node op set kids mn mx mode n neg) && Mo caps top kids
def Mo (caps top:Int):List Tree→Bool
 | []=> true
 | k::ks=> j2 caps top k && Mo caps top ks
end
theorem Pz (caps top:Int) (l:List Tree):Mo caps top l=l.all (j2 caps top):=by
 induction l with
 | nil=> rfl
 | cons x r ih=> simp only [Mo,List.all_cons,ih]
theorem anv (caps top:Int) (ht:top≤2000000) (m:MRe):∀ (w:World),m.aK w→
  Calls Tryz.prog 76 #[m.val,H J caps,H J top] w fun e w'=> e=.returned (F (j2 caps top m.ab))∧I [] w w':=by
 induction m using MRe.nq with
 | h op sa sc set ka kc kids mn mx mode n neg ih=>
  intro w aj;have gj:=fun (W:World) (h:I [] w W)=> am8 (.node op sa sc set ka kc kids mn mx mode n neg) caps top W (aj.ah h) ht;obtain ⟨f,hf⟩:∃ f,f=Gl caps top (MRe.ab (.node op sa sc set ka kc kids mn mx mode n neg)):=⟨_,rfl⟩;replace gj:=C (show ∀ W,I [] w W→Calls Tryz.prog 110 #[.agg #[H J op,M sa set.length sc,M ka kids.length kc,H J mn,H J mx,H J mode,H J n,F neg],H J caps,H J top] W fun e w'=> e=.returned (F f)∧I [] W w' from fun W h=> by rw [hf];exact gj W h);obtain ⟨R,aC⟩:∃ R,R=j2 caps top (MRe.ab (.node op sa sc set ka kc kids mn mx mode n neg)):=⟨_,rfl⟩;rw [←aC];replace aC:R=(f && (MRe.al kids).all (j2 caps top)):=by rw [aC,hf,←Pz];simp only [MRe.ab,j2]
  have dW:=C aC;have ff:=C (fun k (hk:k∈kids) W (h:I [] w W)=> ih k hk W ((aj.dy hk).ah h));have b6:=C aj.kids;have fc:=aj.ch.le;have hcap:=aj.ch.cap;unfold maxLen at hcap;simp only [MRe.val];obtain ⟨U,aA,ar,c1,c2,an,av,ay,ax,az,dw,aB,aZ⟩:=tD w op sa sc set ka kc kids mn mx mode n neg;clear ih aj aC hf;go_enter Tryz.func76,Tryz.ntmps76
  go_upto_region 1 with fail
  rw [←dw.o,←aB.o];go_wp2_with fail
  refine Calls.mono (gj.o _ aZ.o) ?_;rintro e w2 ⟨rfl,hk2⟩;have aU:=C (aZ.o.trans hk2);have d2:=hk2.c c2;clear hk2 ar c1 c2 an av ay ax az
  cases f with
  | false=>
   have aD:=C (show R=false by rw [dW.o];rfl);go_wp2;go_ret;exact ⟨by rw [aD.o];rfl,aU.o⟩
  | true=>
   have gN:=C (show R=(MRe.al kids).all (j2 caps top) by rw [dW.o];rfl);go_wp2
   go_loopw [7] (fun i wr=> ∃ k:Nat,k≤kids.length∧i=H J k∧(∀ x∈(MRe.al kids).take k,j2 caps top x=true)∧I [] w2 wr) (fun i _=> kids.length - (intOf i).toNat)
   case atStart=> exact ⟨0,Nat.zero_le _,rfl,by simp,I.refl _ _⟩
   case round=>
    obtain ⟨k,gC,rfl,fB,ck⟩:=hrel;have eg:=C fB;have cX:=C ck;have dp:=ck.c d2;clear fB ck d2
    by_cases aQ:k < kids.length
    ·obtain ⟨b,off,rfl,ad,hx⟩:=(b6.o.ah (aU.o.trans cX.o)).ch.dy (by omega);have eD:=hx k aQ;have bI:=C (ff.o kids[k] (List.getElem_mem aQ) wr (aU.o.trans cX.o));have i5:k < (MRe.al kids).length:=by rw [MRe.ee];exact aQ
     have hn:=fun h=> U1 (p:=j2 caps top) i5 eg.o h;have hf:=fun h=> Rs (p:=j2 caps top) i5 h;rw [kQ kids k aQ] at hn hf;have dP:=C hn;have sA:=C hf
     generalize kids[k]=m at *
     obtain ⟨ae,hq⟩:∃ ae,ae=j2 caps top m.ab:=⟨_,rfl⟩;rw [←hq] at bI dP sA;obtain ⟨op1,aM,aN,set1,aS,kc1,aq,mn1,aI,mode1,n1,aL⟩:=m;have g:=eD.node;obtain ⟨bg,aV,a6,bl,bq,bE,bF,bH⟩:=id g;simp only [MRe.val] at bI;clear g eD hx hq hn hf;go_wp2_with fail
     refine Calls.mono bI.o ?_;rintro e w3 ⟨rfl,aP⟩;have aR:=C (cX.o.trans aP);clear aP
     cases ae with
     | true=>
      have k8:=C (dP.o rfl);go_wp2;go_roundw
      case rel=> exact ⟨k + 1,by omega,by go_num,k8.o,aR.o⟩
      case measure=> simp [intOf];omega
     | false=>
      have yk:=C (sA.o rfl);go_wp2;go_ret;exact ⟨by rw [gN.o,yk.o];rfl,aU.o.trans aR.o⟩
    ·obtain rfl:k=kids.length:=by omega
     have h0:=Rt (p:=j2 caps top) (l:=MRe.al kids) (by rw [MRe.ee];exact eg.o);have ny:=C h0;clear h0;go_wp2;go_ret;exact ⟨by rw [gN.o,ny.o];rfl,aU.o.trans cX.o⟩
theorem aia (b o:Nat) (mn mx mode:Int) (w:World) (an:w.cell? ⟨b,o + 3,none⟩=some (H J mn)) (av:w.cell? ⟨b,o + 4,none⟩=some (H J mx)) (ay:w.cell? ⟨b,o + 5,none⟩=some (H J mode)):
  Calls Tryz.prog 137 #[.pointer (some ⟨b,o,none⟩)] w fun e w'=> e=.returned (F (!nI mn mx mode))∧I [] w w':=by
 obtain ⟨R,aC⟩:∃ R,R=nI mn mx mode:=⟨_,rfl⟩;rw [←aC];have aD:=C aC;clear aC
 by_cases h1:mn < 0
 ·have gN:=C (show R=true by rw [aD.o];simp [nI,h1]);go_enter Tryz.func137,Tryz.ntmps137
  go_wp2;go_ret;exact ⟨by rw [gN.o];rfl,I.refl _ _⟩
 ·by_cases h2:32 < mn
  ·have gN:=C (show R=true by rw [aD.o];simp [nI,h2]);go_enter Tryz.func137,Tryz.ntmps137
   go_wp2;go_ret;exact ⟨by rw [gN.o];rfl,I.refl _ _⟩
  ·by_cases h3:mode < 0
   ·have gN:=C (show R=true by rw [aD.o];simp [nI,h3]);go_enter Tryz.func137,Tryz.ntmps137
    go_wp2;go_ret;exact ⟨by rw [gN.o];rfl,I.refl _ _⟩
   ·by_cases h4:2 < mode
    ·have gN:=C (show R=true by rw [aD.o];simp [nI,h4]);go_enter Tryz.func137,Tryz.ntmps137
     go_wp2;go_ret;exact ⟨by rw [gN.o];rfl,I.refl _ _⟩
    ·have cw:=C (show R=(decide (mx < -1) || (decide (mx=0) || (decide (32 < mx) || (decide (0 < mx) && decide (mx < mn))))) by rw [aD.o];simp [nI,h1,h2,h3,h4]);go_enter Tryz.func137,Tryz.ntmps137
     go_upto_region 3 with fail
     by_cases h5:mx= -1
     ·have gN:=C (show R=false by rw [cw.o,h5];simp);subst h5
      go_quiet (fail)
      go_wp2;go_ret;exact ⟨by rw [gN.o];rfl,(I.refl _ _).drewN _⟩
     ·have aqb:(mx== -1)=false:=by simpa using h5
      by_cases eW:mx < 1
      ·have ajo:¬ 1≤mx:=by omega
       have gN:=C (show R=true by rw [cw.o];by_cases aW:mx=0;simp [aW];have lg:mx < -1:=(by omega);simp [lg])
       go_quiet (fail)
       go_wp2;go_ret;exact ⟨by rw [gN.o];rfl,(I.refl _ _).drewN _⟩
      ·have ajo:1≤mx:=by omega
       by_cases h7:32 < mx
       ·have ajp:¬ mx≤32:=by omega
        have gN:=C (show R=true by rw [cw.o];simp [h7])
        go_quiet (fail)
        go_wp2;go_ret;exact ⟨by rw [gN.o];rfl,(I.refl _ _).drewN _⟩
       ·have ajp:mx≤32:=by omega
        by_cases ix:mx < mn
        ·have Yd:¬ mn≤mx:=by omega
         have lg:0 < mx:=by omega
         have gN:=C (show R=true by rw [cw.o];simp [ix,lg])
         go_quiet (fail)
         go_wp2;go_ret;exact ⟨by rw [gN.o];rfl,(I.refl _ _).drewN _⟩
        ·have Yd:mn≤mx:=by omega
         have lg:¬ mx < -1:=by omega
         have pZ:¬ mx=0:=by omega
         have gN:=C (show R=false by rw [cw.o];simp [ix,h7,lg,pZ])
         go_quiet (fail)
         go_wp2;go_ret;exact ⟨by rw [gN.o];rfl,(I.refl _ _).drewN _⟩
theorem ahU (sa:Option Addr) (sc:Nat) (set:List (Int × Int)) (top:Int) (w:World) (hs:eK w sa sc set) (ht:top≤2000000):
  Calls Tryz.prog 136 #[M sa set.length sc,H J top] w fun e w'=> e=.returned (F (tE set top))∧I [] w w':=by
 obtain ⟨R,aC⟩:∃ R,R=tE set top:=⟨_,rfl⟩;rw [←aC];unfold tE at aC;have cW:=C hs;have hcap:=hs.cap;have fc:=hs.le;unfold maxLen at hcap;clear hs
 by_cases h64:set.length≤64
 ·have aD:=C (show R=vo top none set by rw [aC];simp [h64]);have pR:=C ht;have ajn:¬ (64:Int) < (set.length:Int):=by omega
  clear aC ht;go_enter Tryz.func136,Tryz.ntmps136
  go_wp2
  go_loopw [5,6,12] (fun _ _ i wr=> ∃ k:Nat,k≤set.length∧i=H J k∧vo top (rT set k) (set.drop k)=vo top none set∧(∀ h,rT set k=some h→0≤h∧h≤2000000)∧I [] w wr) (fun _ _ i _=> set.length - (intOf i).toNat)
  case atStart=> exact ⟨0,Nat.zero_le _,rfl,rfl,(fun h hh=> by cases hh),I.refl _ _⟩
  case round=>
   obtain ⟨k,gC,rfl,DQ,Lp,ck⟩:=hrel;have cX:=C ck;have Je:=C DQ;have EU:=C Lp;clear ck DQ Lp
   by_cases aQ:k < set.length
   ·obtain ⟨b,off,rfl,ad,hx⟩:=(cW.o.ah cX.o).at_ (by omega);obtain ⟨bg,aV⟩:=hx k aQ;have dB:set.drop k=set[k]::set.drop (k + 1):=List.drop_eq_getElem_cons aQ;have hg:=Je.o;rw [dB,vo] at hg;have hp1:rT set (k + 1)=some set[k].2:=by show (set[k]?).map Prod.snd=_;rw [List.getElem?_eq_getElem aQ];rfl
    obtain ⟨s,An⟩:∃ s,s=set[k]:=⟨_,rfl⟩;rw [←An] at bg aV hg hp1;obtain ⟨lo,hi⟩:=s;have fe:=C hg;have xv:=C hp1;have Cv:(k:Int) < (set.length:Int):=by omega
    have je:(0:Int)≤(k:Int):=by omega
    have hM:=C hx;clear hg hp1 dB An hx ad;simp only at bg aV;go_upto_region 6 with fail
    obtain ⟨W,kG⟩:∃ W,W=wr.alloc (.cells #[H J lo,H J hi] 86):=⟨_,rfl⟩;obtain ⟨aG,i0⟩:∃ aG,aG=wr.heap.size:=⟨_,rfl⟩;have xP:I [] wr W:=by rw [kG];exact I.a1 _ _
    have g0:W.cell? ⟨aG,0,none⟩=some (H J lo):=by rw [kG,i0];exact Bd _ _ _ 0
    have g1:W.cell? ⟨aG,1,none⟩=some (H J hi):=by rw [kG,i0];exact Bd _ _ _ 1
    rw [←kG,←i0];have c4:=C (cX.o.trans xP);have MS:=C xP;clear kG i0 xP bg aV
    by_cases q1:lo < 0
    ·have qi:=C (show nE top (rT set k) (lo,hi)=true by simp [nE,q1])
     go_quiet (fail)
     go_wp2;go_ret;exact ⟨by rw [aD.o,←fe.o,qi.o];rfl,c4.o.drewN _⟩
    ·by_cases q2:hi < lo
     ·have qi:=C (show nE top (rT set k) (lo,hi)=true by simp [nE,q2])
      go_quiet (fail)
      go_wp2;go_ret;exact ⟨by rw [aD.o,←fe.o,qi.o];rfl,c4.o.drewN _⟩
     ·by_cases kr:top < hi
      ·have qi:=C (show nE top (rT set k) (lo,hi)=true by simp [nE,kr])
       go_quiet (fail)
       go_wp2;go_ret;exact ⟨by rw [aD.o,←fe.o,qi.o];rfl,c4.o.drewN _⟩
      ·by_cases rK:k=0
       ·have ie:¬ 0 < k:=by omega
        have cU:¬ (0:Int) < (k:Int):=by omega
        have qi:=C (show nE top (rT set k) (lo,hi)=false by rw [rK];simp [nE,q1,q2,kr,rT]);have lW:=C rK;clear rK
        go_quiet (fail)
        go_wp2;go_roundw
        case rel=> exact ⟨k + 1,by omega,by go_num,by rw [xv.o,←fe.o,qi.o];rfl,(fun h hh=> by rw [xv.o] at hh;cases hh;have:=pR.o;omega),c4.o.drewN _⟩
        case measure=> simp [intOf];omega
       ·obtain ⟨j,c8⟩:∃ j,k=j + 1:=⟨k - 1,by omega⟩;have ie:0 < k:=by omega
        have cU:(0:Int) < (k:Int):=by omega
        have tu:j < set.length:=by omega
        have a6:=MS.o.cell (hM.o j tu).2 (by simp);have yL:=acP c8 tu;obtain ⟨s,An⟩:∃ s,s=set[j]'tu:=⟨_,rfl⟩;rw [←An] at a6 yL;obtain ⟨amr,ph⟩:=s;obtain ⟨K4,ajZ⟩:=EU.o ph yL;simp only at a6;have Jn:=C yL;have mN:IntKind.i64.wrap ((k:Int) - 1)=(j:Int):=by rw [IntWalk.i64_in _ (by omega)];omega
        have CC:IntKind.i64.wrap (ph + 2)=ph + 2:=IntWalk.i64_in _ (by omega);have l6:(0:Int)≤(j:Int):=by omega
        have hj1:(j:Int) < (set.length:Int):=by omega
        clear An yL c8 rK
        by_cases ml:lo < ph + 2
        ·have qi:=C (show nE top (rT set k) (lo,hi)=true by rw [Jn.o];have kK:lo≤ph + 1:=(by omega);simp [nE,kK])
         go_quiet (fail)
         go_wp2;go_ret;exact ⟨by rw [aD.o,←fe.o,qi.o];rfl,c4.o.drewN _⟩
        ·have qi:=C (show nE top (rT set k) (lo,hi)=false by rw [Jn.o];have kK:¬ lo≤ph + 1:=(by omega);simp [nE,q1,q2,kr,kK])
         go_quiet (fail)
         go_wp2;go_roundw
         case rel=> exact ⟨k + 1,by omega,by go_num,by rw [xv.o,←fe.o,qi.o];rfl,(fun h hh=> by rw [xv.o] at hh;cases hh;have:=pR.o;omega),c4.o.drewN _⟩
         case measure=> simp [intOf];omega
   ·obtain rfl:k=set.length:=by omega
    have Cr:=Je.o;rw [List.drop_length,vo] at Cr;have GW:=C Cr;clear Cr;go_wp2;go_ret;exact ⟨by rw [aD.o,←GW.o];rfl,cX.o⟩
 ·have aD:=C (show R=false by rw [aC];simp [h64]);have ajn:(64:Int) < (set.length:Int):=by omega
  clear aC;go_enter Tryz.func136,Tryz.ntmps136
  go_wp2;go_ret;exact ⟨by rw [aD.o];rfl,I.refl _ _⟩
def nu (ns:Nat) (mn mx mode n:Int) (neg:Bool):Bool:=decide (ns=0) && (decide (mn=0) && (decide (mx=0) && (decide (mode=0) && (decide (n=0) && !neg))))
theorem XM (ns nk:Nat) (mn mx mode n:Int) (neg:Bool) (caps:Int) (ib:Bool):lO 0 ns nk mn mx mode n neg caps ib=(decide (nk=0) && nu ns mn mx mode n neg):=by
 rw [Bool.eq_iff_iff]
 cases neg <;> simp [lO,pY,sf,rD,lN,ob,nu]
 all_goals omega
theorem XN (ns nk:Nat) (mn mx mode n:Int) (neg:Bool) (caps:Int) (ib:Bool):lO 1 ns nk mn mx mode n neg caps ib=(decide (nk=0) && (ib && nu 0 mn mx mode n neg)):=by
 rw [Bool.eq_iff_iff]
 cases neg <;> cases ib <;> simp [lO,pY,sf,rD,lN,ob,nu]
 all_goals omega
theorem XP (ns nk:Nat) (mn mx mode n:Int) (neg:Bool) (caps:Int) (ib:Bool):lO 2 ns nk mn mx mode n neg caps ib=(decide (2≤nk) && nu ns mn mx mode n neg):=by
 rw [Bool.eq_iff_iff]
 cases neg <;> cases ib <;> simp [lO,pY,sf,rD,lN,ob,nu]
 all_goals omega
theorem XQ (ns nk:Nat) (mn mx mode n:Int) (neg:Bool) (caps:Int) (ib:Bool):lO 3 ns nk mn mx mode n neg caps ib=(decide (2≤nk) && nu ns mn mx mode n neg):=by
 rw [Bool.eq_iff_iff]
 cases neg <;> cases ib <;> simp [lO,pY,sf,rD,lN,ob,nu]
 all_goals omega
theorem XR (ns nk:Nat) (mn mx mode n:Int) (neg:Bool) (caps:Int) (ib:Bool):lO 4 ns nk mn mx mode n neg caps ib=(decide (nk=1) && (!nI mn mx mode && nu ns 0 0 0 n neg)):=by
 rw [Bool.eq_iff_iff]
 cases neg <;> cases ib <;> simp [lO,pY,sf,nI,lN,ob,nu]
 all_goals omega
theorem XS (ns nk:Nat) (mn mx mode n:Int) (neg:Bool) (caps:Int) (ib:Bool):lO 5 ns nk mn mx mode n neg caps ib=(decide (nk=1) && ((decide (1≤n) && decide (n≤caps)) && nu ns mn mx mode 0 neg)):=by
 rw [Bool.eq_iff_iff]
 cases neg <;> cases ib <;> simp [lO,pY,sf,rD,lN,ob,nu]
 all_goals omega
theorem XT (ns nk:Nat) (mn mx mode n:Int) (neg:Bool) (caps:Int) (ib:Bool):lO 6 ns nk mn mx mode n neg caps ib=(decide (nk=0) && ((decide (1≤n) && decide (n≤caps)) && nu ns mn mx mode 0 neg)):=by
 rw [Bool.eq_iff_iff]
 cases neg <;> cases ib <;> simp [lO,pY,sf,rD,lN,ob,nu]
 all_goals omega
theorem XU (ns nk:Nat) (mn mx mode n:Int) (neg:Bool) (caps:Int) (ib:Bool):lO 7 ns nk mn mx mode n neg caps ib=(decide (nk=1) && nu ns mn mx mode n false):=by
 rw [Bool.eq_iff_iff]
 cases neg <;> cases ib <;> simp [lO,pY,sf,rD,lN,ob,nu]
 all_goals omega
theorem XV (ns nk:Nat) (mn mx mode n:Int) (neg:Bool) (caps:Int) (ib:Bool):lO 8 ns nk mn mx mode n neg caps ib=(decide (nk=1) && nu ns mn mx mode n false):=by
 rw [Bool.eq_iff_iff]
 cases neg <;> cases ib <;> simp [lO,pY,sf,rD,lN,ob,nu]
 all_goals omega
theorem XW (ns nk:Nat) (mn mx mode n:Int) (neg:Bool) (caps:Int) (ib:Bool):lO 9 ns nk mn mx mode n neg caps ib=(decide (nk=1) && nu ns mn mx mode n neg):=by
 rw [Bool.eq_iff_iff]
 cases neg <;> cases ib <;> simp [lO,pY,sf,rD,lN,ob,nu]
 all_goals omega
theorem XO (ns nk:Nat) (mn mx mode n:Int) (neg:Bool) (caps:Int) (ib:Bool):lO 10 ns nk mn mx mode n neg caps ib=(decide (nk=2) && ((decide (1≤n) && decide (n≤caps)) && nu ns mn mx mode 0 neg)):=by
 rw [Bool.eq_iff_iff]
 cases neg <;> cases ib <;> simp [lO,pY,sf,rD,lN,ob,nu]
 all_goals omega
theorem Ny (ns nk:Nat) (mn mx mode n:Int) (neg:Bool) (caps:Int) (ib:Bool):lO 11 ns nk mn mx mode n neg caps ib=(decide (nk=0) && ((decide (0≤n) && decide (n≤5)) && nu ns mn mx mode 0 neg)):=by
 rw [Bool.eq_iff_iff]
 cases neg <;> cases ib <;> simp [lO,pY,sf,rD,lN,ob,nu]
 all_goals omega
theorem aja (op:Int) (ns nk:Nat) (mn mx mode n:Int) (neg:Bool) (caps:Int) (ib:Bool) (h:op < 0∨11 < op):lO op ns nk mn mx mode n neg caps ib=false:=by
 unfold lO
 have:pY op (ob op).1 (ob op).2 nk=true:=by
  rcases h with h | h <;> simp [pY,h]
 rw [this]
 rfl
def oG:MRe→Nat→Nat→List Int→Option (MRe × Nat × Nat)
 | m,b,o,[]=> some (m,b,o)
 | .node _ _ _ _ ka _ kids _ _ _ _ _,_,_,x::r=> if 0≤x∧x < kids.length then
   match ka with
   | some a=> oG (kids.getD x.toNat .nil) a.block (a.off + x.toNat * 8) r
   | none=> none
  else none
def Ix (o:Option (MRe × Nat × Nat)):Value:=.pointer (o.map fun x=> ⟨x.2.1,x.2.2,none⟩)
theorem Is {op sa sc set ka kc kids mn mx mode n neg} {b o:Nat} {x:Int} {r:List Int} {bb off:Nat} (hk:ka=some ⟨bb,off,none⟩) (i:Nat) (hx:x=i) (hi:i < kids.length):
  oG (.node op sa sc set ka kc kids mn mx mode n neg) b o (x::r)=oG kids[i] bb (off + i * 8) r:=by
 subst hk;subst hx;rw [oG,if_pos (by omega)];simp only [Int.toNat_natCast,List.getD_eq_getElem?_getD,List.getElem?_eq_getElem hi,Option.getD_some]
theorem It {op sa sc set ka kc kids mn mx mode n neg} {b o:Nat} {x:Int} {r:List Int} (hx:¬ (0≤x∧x < kids.length)):
  oG (.node op sa sc set ka kc kids mn mx mode n neg) b o (x::r)=none:=by unfold oG;exact if_neg hx
theorem Ut:∀ (path:List Int) {m:MRe} {b o:Nat} {w:World},m.aK w→(oG m b o path).map (fun x=> x.1.ab)=jW m.ab path:=by
 intro path
 induction path with
 | nil=> intro m b o w _;rfl
 | cons x r ih=>
  intro m b o w aj;obtain ⟨op,sa,sc,set,ka,kc,kids,mn,mx,mode,n,neg⟩:=m
  show _=if 0≤x∧x < (MRe.al kids).length then jW ((MRe.al kids).getD x.toNat .nil) r else none
  rw [MRe.ee]
  by_cases hx:0≤x∧x < kids.length
  ·obtain ⟨i,rfl⟩:∃ i:Nat,x=(i:Int):=⟨x.toNat,by omega⟩;have hi:i < kids.length:=by omega
   obtain ⟨iw,off,rfl,_,_⟩:=aj.kids.ch.dy (by omega);rw [Is rfl i rfl hi,ih (aj.dy (List.getElem_mem hi)),if_pos hx,Int.toNat_natCast,List.getD_eq_getElem?_getD,List.getElem?_eq_getElem (by rw [MRe.ee];exact hi),Option.getD_some,kQ]
  ·rw [It hx,if_neg hx];rfl
structure PE (w:World) (m:MRe) (b o:Nat):Prop where
 Xg:fb w b o m
 ok:m.aK w
def aek (w:World):Option (MRe × Nat × Nat)→Prop
 | none=> True
 | some x=> PE w x.1 x.2.1 x.2.2
theorem RW (m:MRe) (b o:Nat) (path:List Int) (bP:Option Addr) (pc:Nat) (w:World) (ix:fb w b o m) (aj:m.aK w) (hin:hr w bP path) (hl:path.length≤1000000):
  Calls Tryz.prog 64 #[.pointer (some ⟨b,o,none⟩),M bP path.length pc] w fun e w'=> e=.returned (Ix (oG m b o path))∧I [] w w'∧aek w' (oG m b o path):=by
 obtain ⟨R,aY⟩:∃ R,R=oG m b o path:=⟨_,rfl⟩;rw [←aY];have aD:=C aY;have wx:=C ix;have gD:=C aj;have k1:=C hin;clear aY ix aj hin;go_enter Tryz.func64,Tryz.ntmps64
 go_wp2
 go_loopw [0,6,9] (fun p _ i wr=> ∃ (k:Nat) (mk:MRe) (bb mR:Nat),k≤path.length∧i=H J k∧p=.pointer (some ⟨bb,mR,none⟩)∧fb w bb mR mk∧mk.aK w∧I [] w wr∧R=oG mk bb mR (path.drop k)) (fun _ _ i _=> path.length - (intOf i).toNat)
 case atStart=> exact ⟨0,m,b,o,Nat.zero_le _,rfl,rfl,wx.o,gD.o,I.refl _ _,by rw [List.drop_zero];exact aD.o⟩
 case round=>
  obtain ⟨k,mk,bb,mR,gC,rfl,rfl,ix,cm,ck,py⟩:=hrel;have zw:=C ck;have jq:=C cm;have aeq:=C ix
  by_cases aQ:k < path.length
  ·obtain ⟨nQ,j0,rfl,hpx⟩:=k1.o (by omega);have fQ:=ck.cell (hpx k aQ) (by simp);rw [List.drop_eq_getElem_cons aQ] at py;rw [show path.getD k 0=path[k] by rw [List.getD_eq_getElem?_getD,List.getElem?_eq_getElem aQ,Option.getD_some]] at fQ
   generalize path[k]=x at *
   obtain ⟨op,sa,sc,set,ka,kc,kids,mn,mx,mode,n,neg⟩:=mk;have g:=ix.node;have d2:=ck.cell g.c2 (by simp);have hcap:=cm.ch.cap;have fc:=cm.ch.le;unfold maxLen at hcap;have jr:=C py;have je:(0:Int)≤(k:Int):=by omega
   have hk1:(k:Int) < (path.length:Int):=by omega
   clear hpx g py cm ix ck
   by_cases hx:0≤x∧x < kids.length
   ·obtain ⟨eD,mi⟩:=hx;obtain ⟨i,rfl⟩:∃ i:Nat,x=(i:Int):=⟨x.toNat,by omega⟩;have hi:i < kids.length:=by omega
    have S6:¬ (kids.length:Int)≤(i:Int):=by omega
    have pw:¬ (i:Int) < 0:=by omega
    obtain ⟨iw,off,rfl,lk,hkx⟩:=jq.o.kids.ch.dy (by omega);have aH:=C (hkx i hi);have ae5:=C (jq.o.dy (List.getElem_mem hi));have ga:=C (show R=oG kids[i] iw (off + i * 8) (path.drop (k + 1)) by rw [jr.o,Is rfl i rfl hi]);clear hkx lk;go_wp2;go_roundw
    case rel=> exact ⟨k + 1,kids[i],iw,off + i * 8,by omega,by go_num,rfl,aH.o,ae5.o,zw.o,ga.o⟩
    case measure=> simp [intOf];omega
   ·have ga:=C (show R=none by rw [jr.o,It hx])
    by_cases hxn:x < 0
    ·clear hx;go_wp2;go_ret;exact ⟨by rw [ga.o];rfl,zw.o,by rw [ga.o];trivial⟩
    ·have Oy:(kids.length:Int)≤x:=by omega
     clear hx;go_wp2;go_ret;exact ⟨by rw [ga.o];rfl,zw.o,by rw [ga.o];trivial⟩
  ·obtain rfl:k=path.length:=by omega
   rw [List.drop_length] at py;have ga:=C (show R=some (mk,bb,mR) from py);clear py cm ix ck;go_wp2;go_ret;exact ⟨by rw [ga.o];rfl,zw.o,by rw [ga.o];exact ⟨aeq.o.ah zw.o,jq.o.ah zw.o⟩⟩
mutual
def MRe.l9:MRe→List Nat
 | .node _ _ _ _ ka _ kids _ _ _ _ _=> df kids.length ka ++ MRe.rQ kids
def MRe.rQ:List MRe→List Nat
 | []=> []
 | k::ks=> k.l9 ++ MRe.rQ ks
end
theorem MRe.ak5 (a b:List MRe):MRe.rQ (a ++ b)=MRe.rQ a ++ MRe.rQ b:=by
 induction a with
 | nil=> rfl
 | cons x r ih=> simp [MRe.rQ,ih]
theorem ah7 (a b:List MRe):MRe.dN (a ++ b)=MRe.dN a ++ MRe.dN b:=by
 induction a with
 | nil=> rfl
 | cons x r ih=> simp [MRe.dN,ih]
def sG (lo hi:Nat) (l:List Nat):Prop:=l.Nodup∧∀ b∈l,lo≤b∧b < hi
theorem sG.nil (lo hi:Nat):sG lo hi []:=⟨List.nodup_nil,by simp⟩
theorem sG.aoO {lo hi K6:Nat} {l:List Nat} (h:sG lo hi l) (hh:hi≤K6):sG lo K6 l:=⟨h.1,fun b ad=> ⟨(h.2 b ad).1,by have:=(h.2 b ad).2;omega⟩⟩
theorem sG.ahT {lo Uk Ul hi:Nat} {a b:List Nat} (h:sG lo Uk a) (k:sG Ul hi b) (h1:Uk≤Ul) (h2:lo≤Ul) (h3:Uk≤hi):sG lo hi (a ++ b):=by
 refine ⟨List.nodup_append.2 ⟨h.1,k.1,fun x hx y hy=> ?_⟩,fun x hx=> ?_⟩
 ·have:=(h.2 x hx).2
  have:=(k.2 y hy).1
  omega
 ·rcases List.mem_append.1 hx with hx | hx
  ·have:=h.2 x hx;omega
  ·have:=k.2 x hx;omega
theorem sG.aoj {lo hi K6:Nat} {s l a:List Nat} {g:Nat} (h:sG lo hi (s ++ (a ++ l))) (hg:hi≤g) (ua:g < K6) (kH:lo≤g):sG lo K6 (s ++ ([g] ++ l)):=by
 obtain ⟨h1,h2⟩:=h;rw [List.nodup_append] at h1;obtain ⟨n1,bn,cv⟩:=h1;rw [List.nodup_append] at bn;obtain ⟨eQ,cu,fm⟩:=bn;have hs:∀ x∈s,x < hi:=fun x hx=> (h2 x (List.mem_append_left _ hx)).2;have hl:∀ x∈l,x < hi:=fun x hx=> (h2 x (List.mem_append_right _ (List.mem_append_right _ hx))).2;refine ⟨List.nodup_append.2 ⟨n1,List.nodup_append.2 ⟨by simp,cu,fun x hx y hy=> ?_⟩,fun x hx y hy=> ?_⟩,fun x hx=> ?_⟩
 ·simp at hx;subst hx;have:=hl y hy;omega
 ·simp only [List.cons_append,List.nil_append,List.mem_cons] at hy
  rcases hy with rfl | hy
  ·have:=hs x hx;omega
  ·exact cv x hx y (List.mem_append_right _ hy)
 ·rcases List.mem_append.1 hx with hx | hx
  ·have:=h2 x (List.mem_append_left _ hx);omega
  ·simp only [List.cons_append,List.nil_append,List.mem_cons] at hx
   rcases hx with rfl | hx
   ·exact ⟨kH,ua⟩
   ·have:=h2 x (List.mem_append_right _ (List.mem_append_right _ hx));omega
def yy (w:World) (l:List Nat):Prop:=∀ b∈l,∀ o,w.frozen? ⟨b,o,none⟩=false
theorem yy.bG {w w':World} {S l:List Nat} (h:yy w l) (k:I S w w') (hs:∀ b∈l,b < w.heap.size) (hn:∀ b∈l,b ∉ S):yy w' l:=fun b ad o=> by
 have:=h b ad o
 simp only [World.frozen?] at this ⊢;rw [k.block b (hs b ad) (hn b ad)];exact this
def Vc (w:World) (t:Tree) (e:Ending) (w':World):Prop:=
 ∃ m:MRe,e=.returned m.val∧m.ab=t∧m.aK w'∧I [] w w'∧sG w.heap.size w'.heap.size m.aw∧yy w' m.l9
theorem aoG {w:World} {U T:Nat} {op mn mx mode n:Int} {neg:Bool} {cT aj:Value} (h:w.heap[U]? =some (.cells #[H J op,cT,aj,H J mn,H J mx,H J mode,H J n,F neg] T (0,0))) (v u:Value):
  ((w.setCell ⟨U,1,none⟩ v).setCell ⟨U,2,none⟩ u).heap[U]? =some (.cells #[H J op,v,u,H J mn,H J mx,H J mode,H J n,F neg] T (0,0)):=by
 have h1:(w.setCell ⟨U,1,none⟩ v).heap[U]? =some (.cells #[H J op,v,aj,H J mn,H J mx,H J mode,H J n,F neg] T (0,0)):=heap_setCell_same _ U 1 _ T v h;exact heap_setCell_same _ U 2 _ T u h1
theorem al6 {w:World} {U T:Nat} {op mn mx mode n:Int} {neg:Bool} {cT aj:Value} (h:w.heap[U]? =some (.cells #[H J op,cT,aj,H J mn,H J mx,H J mode,H J n,F neg] T (0,0))) (u:Value):
  (w.setCell ⟨U,2,none⟩ u).heap[U]? =some (.cells #[H J op,cT,u,H J mn,H J mx,H J mode,H J n,F neg] T (0,0)):=heap_setCell_same _ U 2 _ T u h
theorem Xj {n:Nat} {a:Option Nat} (h:n=0→a=none):df n (a.map fun g=> (⟨g,0,none⟩:Addr))=a.toList:=by
 unfold df
 split
 ·rename_i h0;rw [h h0];rfl
 ·cases a <;> rfl
theorem ah6 (n:Nat) (a:Option Addr):(df n a).Nodup:=by
 unfold df
 split
 ·exact List.nodup_nil
 ·cases a <;> simp
structure Va (w:World) (U:Nat) (op:Int) (sa:Option Addr) (sc:Nat) (set:List (Int × Int)) (mn mx mode n:Int) (neg:Bool) (ag:List Tree) (k:Nat) (wr:World) (a:Option Nat) (c:Nat) (ks:List MRe):Prop where
 len:ks.length=k
 alX:k=0→a=none
 iJ:cr wr 26 8 a k c (fX ks)
 adT:MRe.al ks=ag.take k
 ok:∀ x∈ks,x.aK wr
 row:wr.heap[U]? =some (.cells #[H J op,M sa set.length sc,de a k c,H J mn,H J mx,H J mode,H J n,F neg] 26 (0,0))
 zero:wr.heap[U + 1]? =some cO
 ib:eK wr sa sc set
 ah:I [] w wr
 CT:sG (U + 2) wr.heap.size (df set.length sa ++ (a.toList ++ MRe.dN ks))
 adx:yy wr (a.toList ++ MRe.rQ ks)
def PD (w:World) (U:Nat) (op:Int) (sa:Option Addr) (sc:Nat) (set:List (Int × Int)) (mn mx mode n:Int) (neg:Bool) (ag:List Tree) (k:Nat) (wr:World):Prop:=∃ a c ks,Va w U op sa sc set mn mx mode n neg ag k wr a c ks
theorem MRe.xZ:∀ m:MRe,∀ b∈m.l9,b∈m.aw:=by
 intro m
 induction m using MRe.nq with
 | h op sa sc set ka kc kids mn mx mode n neg ih=>
  intro b ad;simp only [MRe.l9,List.mem_append] at ad;simp only [MRe.aw,List.mem_append]
  rcases ad with ad | ad
  ·exact .inr (.inl ad)
  ·right;right
   have:∀ l:List MRe,(∀ x∈l,∀ b∈x.l9,b∈x.aw)→∀ b∈MRe.rQ l,b∈MRe.dN l:=by
    intro l
    induction l with
    | nil=> intro _ b ad;exact ad
    | cons x r ih2=>
     intro h b ad;simp only [MRe.rQ,List.mem_append] at ad;simp only [MRe.dN,List.mem_append]
     rcases ad with ad | ad
     ·exact .inl (h x (by simp) b ad)
     ·exact .inr (ih2 (fun y hy=> h y (by simp [hy])) b ad)
   exact this kids ih b ad
theorem LP {l:List MRe}:∀ b∈MRe.rQ l,b∈MRe.dN l:=by
 induction l with
 | nil=> intro b ad;exact ad
 | cons x r ih=>
  intro b ad;simp only [MRe.rQ,List.mem_append] at ad;simp only [MRe.dN,List.mem_append]
  rcases ad with ad | ad
  ·exact .inl (MRe.xZ x b ad)
  ·exact .inr (ih b ad)
theorem RF {w wr bS hG gW fN:World} {U:Nat} {op mn mx mode n:Int} {neg:Bool} {sa:Option Addr} {sc:Nat} {set:List (Int × Int)} {ag:List Tree} {k c c2:Nat} {a a2:Option Nat} {ks:List MRe} {m:MRe} {t:Tree}
  (h:Va w U op sa sc set mn mx mode n neg ag k wr a c ks) (si:w.heap.size≤U) (aQ:k < ag.length) (ht:ag[k]=t) (h5:I [] wr bS) (Ya:I [] bS hG) (hm:m.ab=t) (ds:m.aK hG) (hs:sG bS.heap.size hG.heap.size m.aw) (hf:yy hG m.l9)
  (NC:I [] hG gW) (dd:cr fN 26 8 a2 (k + 1) c2 (fX ks ++ m.row)) (Ck:I a.toList gW fN) (b8:a2=a∨∃ g,a2=some g∧gW.heap.size≤g):
  PD w U op sa sc set mn mx mode n neg ag (k + 1) (fN.setCell ⟨U,2,none⟩ (de a2 (k + 1) c2)):=by
 have aqd:U + 1 < wr.heap.size:=lt_of_block h.zero;have ajl:wr.heap.size≤bS.heap.size:=h5.size;have arp:=Ya.size;have arq:=NC.size;have ars:=Ck.size;have hal:∀ g,a=some g→U + 2≤g∧g < wr.heap.size:=fun g hg=> h.CT.2 g (by simp [hg]);have gX:I [] wr gW:=(h5.trans Ya).trans NC;have tv:I [U] fN (fN.setCell ⟨U,2,none⟩ (de a2 (k + 1) c2)):=(I.refl [U] fN).setCell (p:=⟨U,2,none⟩) (.inl (by simp)) _;have akI:(fN.setCell ⟨U,2,none⟩ (de a2 (k + 1) c2)).heap.size=fN.heap.size:=by have:=tv.size;simp
 have m4:∃ g,a2=some g:=by
  rcases b8 with rfl | ⟨g,rfl,_⟩
  ·cases a2 with
   | none=> have:=dd.2.1;omega
   | some g=> exact ⟨g,rfl⟩
  ·exact ⟨g,rfl⟩
 obtain ⟨g,rfl⟩:=m4;have hgB:U + 2≤g:=by
  rcases b8 with h1 | ⟨hv,h1,h2⟩
  ·exact (hal g h1.symm).1
  ·cases h1;omega
 have sm:g < fN.heap.size:=dd.lt;have hold:∀ b∈df set.length sa ++ (a.toList ++ MRe.dN ks),U + 2≤b∧b < wr.heap.size:=h.CT.2;have aad:∀ b∈MRe.dN ks,b ∉ a.toList:=fun b ad hx=> by
  have:=(List.nodup_append.1 (List.nodup_append.1 h.CT.1).2.1).2.2
  exact this b hx b ad rfl
 have akm:∀ b∈df set.length sa,b ∉ a.toList:=fun b ad hx=> (List.nodup_append.1 h.CT.1).2.2 b ad b (List.mem_append_left _ hx) rfl;have hmlt:∀ b∈m.aw,bS.heap.size≤b∧b < hG.heap.size:=hs.2;have Z0:∀ b∈m.aw,b ∉ a.toList:=fun b ad hx=> by
  have h1:=hmlt b ad
  cases a with
  | none=> simp at hx
  | some hv=> simp at hx;subst hx;have:=hal b rfl;omega
 have hok8:∀ x∈ks,x.aK fN:=fun x hx=> ((h.ok x hx).ah gX).bG Ck fun b ad=> aad b (MRe.mQ hx ad);have aki:m.aK fN:=(ds.ah NC).bG Ck Z0;have akG:eK fN sa sc set:=(h.ib.ah gX).bG Ck akm;have akA:fN.heap[U]? =some (.cells #[H J op,M sa set.length sc,de a k c,H J mn,H J mx,H J mode,H J n,F neg] 26 (0,0)):=Ck.heap (gX.heap h.row (by simp)) (fun hx=> by cases a with | none=> simp at hx | some hv=> simp at hx;have:=hal hv rfl;omega);have akV:fN.heap[U + 1]? =some cO:=Ck.heap (gX.heap h.zero (by simp)) (fun hx=> by cases a with | none=> simp at hx | some hv=> simp at hx;have:=hal hv rfl;omega);have akF:yy fN (MRe.rQ ks):=by
  have h1:yy wr (MRe.rQ ks):=fun b ad=> h.adx b (List.mem_append_right _ ad);have h2:yy gW (MRe.rQ ks):=h1.bG gX (fun b ad=> (hold b (List.mem_append_right _ (List.mem_append_right _ (LP b ad)))).2) (by simp);exact h2.bG Ck (fun b ad=> by have:=(hold b (List.mem_append_right _ (List.mem_append_right _ (LP b ad)))).2;have:=gX.size;omega) (fun b ad=> aad b (LP b ad))
 have akj:yy fN m.l9:=(hf.bG NC (fun b ad=> (hmlt b (MRe.xZ m b ad)).2) (by simp)).bG Ck (fun b ad=> by have:=(hmlt b (MRe.xZ m b ad)).2;omega) (fun b ad=> Z0 b (MRe.xZ m b ad));have FL:∀ b,U + 2≤b→b ∉ [U]:=fun b ad=> by simp;omega
 have hall:∀ b∈MRe.dN ks,U + 2≤b:=fun b ad=> (hold b (List.mem_append_right _ (List.mem_append_right _ ad))).1;refine ⟨some g,c2,ks ++ [m],⟨by simp [h.len],fun h0=> by omega,?_,?_,?_,al6 akA _,tv.h akV,akG.bG tv (fun b ad=> FL b (hold b (List.mem_append_left _ ad)).1),?_,?_,?_⟩⟩
 ·rw [Cf,show fX [m]=m.row by simp [fX]];exact dd.ah tv (fun x hx=> by cases hx;exact FL g hgB)
 ·rw [adU,h.adT,List.take_succ_eq_append_getElem aQ,ht,←hm];rfl
 ·intro x hx
  rcases List.mem_append.1 hx with hx | hx
  ·exact (hok8 x hx).bG tv fun b ad=> FL b (hall b (MRe.mQ hx ad))
  ·simp at hx;subst hx;exact aki.bG tv fun b ad=> FL b (by have:=(hmlt b ad).1;omega)
 ·have h1:I [] w fN:=(h.ah.trans gX).cn Ck (fun x hx=> .inr (by cases a with | none=> simp at hx | some hv=> simp at hx;subst hx;have:=hal x rfl;omega));exact h1.cn tv (fun x hx=> .inr (by simp at hx;subst hx;exact si))
 ·rw [ah7,show MRe.dN [m]=m.aw by simp [MRe.dN],akI];have ad:sG (U + 2) hG.heap.size ((df set.length sa ++ (a.toList ++ MRe.dN ks)) ++ m.aw):=h.CT.ahT hs ajl (by omega) (by omega);have he:(df set.length sa ++ (a.toList ++ MRe.dN ks)) ++ m.aw=df set.length sa ++ (a.toList ++ (MRe.dN ks ++ m.aw)):=by simp [List.append_assoc]
  rw [he] at ad
  rcases b8 with h1 | ⟨hv,h1,h2⟩
  ·rw [←h1] at ad;exact ad.aoO (by omega)
  ·cases h1
   exact ad.aoj (by omega) sm hgB
 ·intro b ad o;rw [MRe.ak5,show MRe.rQ [m]=m.l9 by simp [MRe.rQ]] at ad;have pz:yy (fN.setCell ⟨U,2,none⟩ (de (some g) (k + 1) c2)) ([g] ++ (MRe.rQ ks ++ m.l9)):=by
   refine yy.bG (w:=fN) (fun b ad o=> ?_) tv (fun b ad=> ?_) (fun b ad=> ?_)
   ·rcases List.mem_append.1 ad with ad | ad
    ·simp at ad;subst ad;exact dd.fz o
    ·rcases List.mem_append.1 ad with ad | ad
     ·exact akF b ad o
     ·exact akj b ad o
   ·rcases List.mem_append.1 ad with ad | ad
    ·simp at ad;subst ad;exact sm
    ·rcases List.mem_append.1 ad with ad | ad
     ·have:=(hold b (List.mem_append_right _ (List.mem_append_right _ (LP b ad)))).2;have:=gX.size;omega
     ·have:=(hmlt b (MRe.xZ m b ad)).2;omega
   ·rcases List.mem_append.1 ad with ad | ad
    ·simp at ad;subst ad;exact FL b hgB
    ·rcases List.mem_append.1 ad with ad | ad
     ·exact FL b (hall b (LP b ad))
     ·exact FL b (by have:=(hmlt b (MRe.xZ m b ad)).1;omega)
  exact pz b (by simpa using ad) o
end Go.Proofs.YtjnlkjlbejelgaaGreat
