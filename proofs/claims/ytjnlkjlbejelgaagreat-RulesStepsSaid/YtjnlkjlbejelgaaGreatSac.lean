/- Part of the proof. No condition: every lemma says its own. -/
import Derived.Test.YtjnlkjlbejelgaaGreatRSPbc
import Derived.Test.YtjnlkjlbejelgaaGreatSPab
import Derived.Test.YtjnlkjlbejelgaaGreatSab
namespace Go.Proofs.YtjnlkjlbejelgaaGreat
open Go.RowKit
open Go.Value renaming int→H,slice→M,bool→F
open Go.IntKind renaming i64→J
set_option maxRecDepth 100000
set_option maxHeartbeats 16000000
theorem aod {t:Tree} {cp:Int} {ru:Bool} {p:List Int}:∀ k,(j1 t cp ru p k).length≤k:=by
 intro k
 induction k with
 | zero=> simp [j1]
 | succ k ih=>
  simp only [j1,List.length_append]
  split <;> simp <;> omega
theorem aoe (t:Tree) (cp:Int) (ru:Bool):(ug t cp ru).length≤17 * dD t:=by
 have h1:=(x5 t).1;unfold ug;rw [←h1]
 generalize ia t=l
 induction l with
 | nil=> simp
 | cons x r ih=>
  simp only [List.flatMap_cons,List.length_append,List.length_cons]
  have:=aod (t:=t) (cp:=cp) (ru:=ru) (p:=x) 17
  omega
theorem aof {t:Tree} {cp:Int} {ru:Bool} {s:Int × List Int} (h:s∈ug t cp ru):s.2.length≤t.bm:=by
 obtain ⟨p,hp,hs⟩:=List.mem_flatMap.1 h;obtain ⟨r,aO,rfl,cm⟩:=UZ _ hs;have hl:=(x5 t).2 p hp
 show p.length≤_
 omega
def A8 (w:World) (g o:Nat) (m:MRe) (cp:Int) (ru:Bool):Prop:=∀ j,j < 10→w.cell? ⟨g,o + j,none⟩=(m.row ++ [H J cp,Value.bool ru])[j]?
theorem A8.ah {w w':World} {g o:Nat} {m:MRe} {cp:Int} {ru:Bool} (h:A8 w g o m cp ru) (k:I [] w w'):A8 w' g o m cp ru:=fun j c8=> by
 have hl:j < (m.row ++ [H J cp,Value.bool ru]).length:=by simp [MRe.rU];omega
 have h1:=h j c8;rw [List.getElem?_eq_getElem hl] at h1 ⊢;exact k.c h1
theorem A8.cells {w:World} {g o:Nat} {op sa sc set ka kc kids mn mx mode n neg} {cp:Int} {ru:Bool} (h:A8 w g o (.node op sa sc set ka kc kids mn mx mode n neg) cp ru):w.cell? ⟨g,o,none⟩=some (H J op)∧w.cell? ⟨g,o + 1,none⟩=some (M sa set.length sc)∧w.cell? ⟨g,o + 2,none⟩=some (M ka kids.length kc)∧w.cell? ⟨g,o + 3,none⟩=some (H J mn)∧w.cell? ⟨g,o + 4,none⟩=some (H J mx)∧w.cell? ⟨g,o + 5,none⟩=some (H J mode)∧w.cell? ⟨g,o + 6,none⟩=some (H J n)∧w.cell? ⟨g,o + 7,none⟩=some (F neg)∧w.cell? ⟨g,o + 8,none⟩=some (H J cp)∧w.cell? ⟨g,o + 9,none⟩=some (F ru):=
 ⟨h 0 (by omega),h 1 (by omega),h 2 (by omega),h 3 (by omega),h 4 (by omega),h 5 (by omega),h 6 (by omega),h 7 (by omega),h 8 (by omega),h 9 (by omega)⟩
theorem amf {w:World} {g o:Nat} {m ja:MRe} {cp:Int} {ru:Bool} (e:m=ja) (h:A8 w g o m cp ru):A8 w g o ja cp ru:=e ▸ h
theorem ame {w:World} {g T:Nat} {fz:Nat × Nat} {m ae:MRe} {cp cp':Int} {ru ru':Bool} (h:w.heap[g]? =some (.cells ((m.row ++ [H J cp,Value.bool ru]) ++ (ae.row ++ [H J cp',Value.bool ru'])).toArray T fz)):A8 w g (0 * 10) m cp ru:=fun j c8=> by
 have hl:j < (m.row ++ [H J cp,Value.bool ru]).length:=by simp [MRe.rU];omega
 unfold World.cell?;rw [h];simp only [Nat.zero_mul,Nat.zero_add,List.getElem?_toArray];rw [List.getElem?_append_left hl]
 rfl
theorem amg {w:World} {g T:Nat} {fz:Nat × Nat} {m ae:MRe} {cp cp':Int} {ru ru':Bool} (h:w.heap[g]? =some (.cells ((m.row ++ [H J cp,Value.bool ru]) ++ (ae.row ++ [H J cp',Value.bool ru'])).toArray T fz)):A8 w g (1 * 10) ae cp' ru':=fun j c8=> by
 have hl:(m.row ++ [H J cp,Value.bool ru]).length=10:=by simp [MRe.rU]
 unfold World.cell?;rw [h];simp only [Nat.one_mul,List.getElem?_toArray];rw [List.getElem?_append_right (by omega),hl,Nat.add_sub_cancel_left]
 rfl
theorem cr.an7 {w:World} {e size:Nat} {a:Option Nat} {n c:Nat} {xs:List Value} (h:cr w e size a n c xs):0 < n→∃ aX,(a.map fun g=> (⟨g,0,none⟩:Addr))=some aX∧∀ j u,xs[j]? =some u→w.cell? (aX.add j)=some u:=fun h0=> by
 cases a with
 | none=> obtain ⟨_,h2,_⟩:=h;omega
 | some g=>
  refine ⟨⟨g,0,none⟩,rfl,fun j u cy=> ?_⟩;obtain ⟨c8,cy⟩:=List.getElem?_eq_some_iff.1 cy;rw [Hm,Nat.zero_add,h.cell j c8,cy]
theorem steps_walk (cS:Option Addr) (dH:Nat) (bR:List Int) (at0 lQ fW:Int) (w:World) (hin:hr w cS bR) (hl:bR.length≤9223372036854775807) (ad:∀ x∈bR,np x) (hat:np at0) (tt:np lQ) (ps:np fW):
  Calls Tryz.prog 5 #[M cS bR.length dH,H J at0,H J lQ,H J fW] w fun e w'=> e=.returned (F true)∧I [] w w':=by
 obtain ⟨gq,hi,dQ,fj,eI⟩:=info_parts OC;have gH:=C hi;have gI:=C dQ;have gJ:=C fj;have gK:=C eI;clear hi dQ fj eI;have gi:=C (Xy cS dH bR at0 lQ w hin hl ad hat tt);have aew:=C hat;have Jh:=C tt;have wA:=C ps;clear hin hl ad hat tt ps;go_enter Tryz.func5,Tryz.ntmps5
 go_wp2_with fail
 refine Calls.mono gi.o ?_;rintro e w2 ⟨m,cp,rfl,hmo,oC,m7,ud⟩;obtain ⟨bW,cQ⟩:∃ bW,bW=m:=⟨_,rfl⟩;rw [←cQ] at hmo m7 ud;have jo:=C cQ;have gD:=C hmo;have vz:=C m7;have bQ:=C oC;obtain ⟨op1,aM,aN,set1,aS,kc1,aq,mn1,aI,mode1,n1,aL⟩:=m;simp only [fV,MRe.row,List.cons_append,List.nil_append];clear hmo oC m7 cQ ud;go_upto_region 2 with fail
 obtain ⟨aA,c5⟩:∃ aA,aA=w2.alloc (.cells #[H J op1,M aM set1.length aN,M aS aq.length kc1,H J mn1,H J aI,H J mode1,H J n1,F aL,H J cp,F false] 28):=⟨_,rfl⟩;obtain ⟨qh,sj⟩:∃ qh,qh=w2.heap.size:=⟨_,rfl⟩;have eZ:I [] w2 aA:=by rw [c5];exact I.a1 _ _
 have lg:aA.heap[qh]? =some (.cells #[H J op1,M aM set1.length aN,M aS aq.length kc1,H J mn1,H J aI,H J mode1,H J n1,F aL,H J cp,F false] 28 (0,0)):=by rw [c5,sj];exact heap_alloc_new w2 _
 rw [←c5,←sj];have aZ:=C (bQ.o.trans eZ);have yr:=C (gD.o.ah eZ);obtain ⟨ar,c1,c2,an,av,ay,ax,az,au,dg,fh⟩:=fR lg;have fp:=fun (W:World) (h:I [] aA W)=> an5 bW cp false lQ at0 fW W (yr.o.ah h) vz.o Jh.o aew.o wA.o;rw [jo.o] at fp;simp only [fV,MRe.row,List.cons_append,List.nil_append] at fp;have fp:=C fp;clear c5 sj eZ lg fh gD bQ
 go_cut [10] from 26 to 32 (fun iS db=> ∃ (pO:Nat) (ae:MRe) (cp':Int) (ru':Bool) (ak:World),iS=M (some ⟨pO,0,none⟩) 2 2∧ak=db∧ae.aK ak∧ae.ab.bm≤30000∧I [] aA ak∧ak.heap[pO]? =some (.cells ((bW.row ++ [H J cp,Value.bool false]) ++ (ae.row ++ [H J cp',Value.bool ru'])).toArray 28 (0,0)))
 case first=>
  have eA:=C ((I.refl [] aA).drew);refine rg (S:=fun w'=> (iK w' qh op1 aM set1 aN aS aq kc1 mn1 aI mode1 n1 aL)∧w'.cell? ⟨qh,8,none⟩=some (H J cp)∧w'.cell? ⟨qh,9,none⟩=some (F false)) (fun _ k=> ⟨(k.au ar c1 c2 an av ay ax az),k.c au,k.c dg⟩) fun bM aF=> ?_;refine ag 0 ?_;refine ag 1 ?_;refine ag 2 ?_;refine ag 3 ?_;refine ag 4 ?_;refine bh 5 fun ai af=> ?_;go_simp;refine Calls.mono (fp.o _ eA.o) ?_;rintro gz w3 ⟨ae,cp',ru',rfl,aT,aP,vY⟩;have aR:=C (eA.o.trans aP);have dA:=C aT;have zC:=C vY;obtain ⟨q0,bN⟩:∃ q0,q0=ae:=⟨_,rfl⟩;rw [←bN] at dA zC;have dt:=C bN;obtain ⟨bA,bB,bC,bD,bs,bt,bu,bo,bx,bw,bp,bz⟩:=ae;simp only [fV,MRe.row,List.cons_append,List.nil_append];clear aT aP vY bN;refine af.out _ _ (bM.o _ aR.o) fun aF=> ?_;clear af ai;try go_frame
  refine bh 6 fun ai af=> ?_;go_simp;have eS:=C (aR.o.trans (I.a1 w3 (.cells #[H J op1,M aM set1.length aN,M aS aq.length kc1,H J mn1,H J aI,H J mode1,H J n1,F aL,H J cp,F false,H J bA,M bB bD.length bC,M bs bu.length bt,H J bo,H J bx,H J bw,H J bp,F bz,H J cp',F ru'] 28)));refine af.out _ _ (bM.o _ eS.o) fun aF=> ?_;clear af ai;try go_frame
  refine ag 7 ?_;refine dR ?_;go_wp2;go_meet;exact ⟨w3.heap.size,q0,cp',ru',_,rfl,rfl,dA.o.ah (I.a1 w3 _),zC.o,eS.o,by rw [jo.o,dt.o];exact heap_alloc_new w3 _⟩
 case rest=>
 obtain ⟨pO,ae,cp',ru',ak,rfl,rfl,aT,vY,dh,Ab⟩:=hcut;have dG:=C (aZ.o.trans dh);have mX:=C (show ∀ (k:Nat),k < 2→∃ (oF:MRe) (uQ:Int) (vn:Bool),oF.aK ak∧oF.ab.bm≤30000∧A8 ak pO (k * 10) oF uQ vn from fun k hk=> by
  rcases (show k=0∨k=1 by omega) with rfl | rfl
  ·exact ⟨bW,cp,false,yr.o.ah dh,by have:=vz.o;omega,ame Ab⟩
  ·exact ⟨ae,cp',ru',aT,vY,amg Ab⟩)
 clear aT vY dh Ab ar c1 c2 an av ay ax az au dg fp;go_wp2
 go_loopw [11,12,13,14,15,16,17,18,19,20,21] (fun i _ _ _ _ _ _ _ _ _ _ wr=> ∃ k:Nat,k≤2∧i=H J k∧I [] ak wr) (fun i _ _ _ _ _ _ _ _ _ _ _=> 2 - (intOf i).toNat)
 case atStart=> exact ⟨0,by omega,rfl,I.refl _ _⟩
 case round=>
  obtain ⟨kk,gC,rfl,ck⟩:=hrel;obtain ⟨lK,yS⟩:∃ lK,lK=wr:=⟨_,rfl⟩;rw [←yS] at ck ⊢;have zw:=C ck;clear ck yS
  by_cases aQ:kk < 2
  ·obtain ⟨oF,uQ,vn,hmo,m7,j7⟩:=mX.o kk aQ;have H0:=j7.ah zw.o;have A0:=C (hmo.ah zw.o);have G0:=C m7;obtain ⟨ve,hve⟩:∃ ve,ve=gZ oF.ab uQ vn:=⟨_,rfl⟩;have yw:=C hve;have fq:=C (UE oF uQ vn lK A0.o);have oN:=C (fun (W:World) (h:I [] lK W)=> ac5 oF uQ vn W (A0.o.ah h) (by omega));obtain ⟨Gi,Tm⟩:∃ Gi,Gi=oF:=⟨_,rfl⟩;have nB:=C H0;rw [←Tm] at A0 G0 yw nB oN fq;have vA:=C Tm;have eE:=fq.o;have Am:=oN.o;rw [vA.o] at eE Am;obtain ⟨op1,aM,aN,set1,aS,kc1,aq,mn1,aI,mode1,n1,aL⟩:=oF;simp only [fV,MRe.row,List.cons_append,List.nil_append] at eE Am;replace fq:=C eE;replace oN:=C Am;obtain ⟨ar,c1,c2,an,av,ay,ax,az,au,dg⟩:=H0.cells;have je:(0:Int)≤(kk:Int):=by omega
   have hk1:(kk:Int) < 2:=by omega
   have DW:¬ (2:Int)≤(kk:Int):=by omega
   clear hmo m7 j7 H0 Tm hve eE Am;go_wp2_with fail
   refine Calls.mono fq.o ?_;rintro e w3 ⟨a1,apK,Em,rfl,gQ,aP,gL⟩;have dx:=aP.au ar c1 c2 an av ay ax az;clear ar c1 c2 an av ay ax az;obtain ⟨ar,c1,c2,an,av,ay,ax,az⟩:=dx;replace au:=aP.c au;replace dg:=aP.c dg;have qn:=C gQ;have aR:=C aP;have gN:=C gL;simp only [de];clear gQ aP gL;go_wp2_with fail
   refine Calls.mono (oN.o w3 aR.o) ?_;rintro e w4 ⟨a2,ail,rows2,rfl,gn,bc,p4,Bs,_,_⟩;have dx:=bc.au ar c1 c2 an av ay ax az;clear ar c1 c2 an av ay ax az;obtain ⟨ar,c1,c2,an,av,ay,ax,az⟩:=dx;replace au:=bc.c au;replace dg:=bc.c dg;have py:Em.map ei.s=rows2.map ei.s:=by rw [gN.o,p4]
   have pw:Em.length=rows2.length:=by have h:=congrArg List.length py;simpa using h
   have N9:rows2.length≤17 * 30000:=by
    have h:=congrArg List.length p4;rw [List.length_map] at h;have h2:=aoe (MRe.ab (.node op1 aM aN set1 aS kc1 aq mn1 aI mode1 n1 aL)) uQ vn;have h3:=G0.o;rw [vA.o] at h3;have h4:=(AJ (MRe.ab (.node op1 aM aN set1 aS kc1 aq mn1 aI mode1 n1 aL))).1
    split at h
    ·omega
    ·rw [List.length_nil] at h;omega
   have afO:=C (qn.o.kJ bc);have j3:=C gn;have cl:=C (aR.o.trans bc);have jr:=C py;have BR:=C Bs;have oM:=C (show ∀ s∈rows2.map ei.s,s.2.length≤1000000 from fun s hs=> by
    rw [p4] at hs;have h3:=G0.o;rw [vA.o] at h3;have h4:=(AJ (MRe.ab (.node op1 aM aN set1 aS kc1 aq mn1 aI mode1 n1 aL))).1
    split at hs
    ·have:=aof hs;omega
    ·cases hs)
   have aa1:gZ (MRe.ab (.node op1 aM aN set1 aS kc1 aq mn1 aI mode1 n1 aL)) uQ vn=ve:=by rw [yw.o,vA.o]
   rw [aa1,pw];have tO:=C pw;have aq5:(ve !=ve)=false:=by simp
   have iC:(((rows2.length:Nat):Int) !=(rows2.length:Nat))=false:=by simp
   simp only [de];clear gn bc p4 Bs py gN qn aa1 pw;have xM:=R3 rows2
   go_wp2_with (at_builtin;refine tF rfl (.tmp 63) (.tmp 64) 43 rfl 52 gq _ 2 32 Tryz.underlying43 gH.o gI.o gJ.o gK.o rfl (by decide) (some w4.heap.size) 0 0 [] rfl (cr.empty w4 _ _) (a2.map fun g=> ⟨g,0,none⟩) rows2.length ail (mH rows2) rfl xM ((j3.o.iJ.alloc _).an7) (R4 rows2) (by omega) (by omega) ?hk)
   case hk=>
    intro Ro cb bS aaQ hk5 NQ;have La:I [] w4 bS:=(I.a1 w4 _).cn hk5 (by intro x hx;simp at hx;subst hx;exact .inr (Nat.le_refl _));obtain ⟨gb,rfl,DP⟩:∃ gb,Ro=some gb∧w4.heap.size≤gb:=by
     rcases NQ with h | ⟨g,h,h2⟩
     ·exact ⟨_,h,Nat.le_refl _⟩
     ·refine ⟨g,h,?_⟩
      have:w4.heap.size≤(w4.alloc (.cells #[] 52)).heap.size:=by simp
      omega
    have MO:=C (show cr bS 52 2 (some gb) rows2.length cb (mH rows2) by simpa using aaQ);have JF:=C La;have uC:=C DP;have dx:=La.au ar c1 c2 an av ay ax az;clear ar c1 c2 an av ay ax az;obtain ⟨ar,c1,c2,an,av,ay,ax,az⟩:=dx;replace au:=La.c au;replace dg:=La.c dg;simp only [de,Option.map_some];clear aaQ hk5 NQ La DP xM;go_wp2_with fail
    refine Calls.mono (tS fW 17 _ (by decide) wA.o) ?_;rintro e hG ⟨rfl,rfl⟩;obtain ⟨tl,YR⟩:∃ tl,tl=nD fW 17:=⟨_,rfl⟩;rw [←YR];clear YR
    go_wp2_with (at_builtin;refine tF rfl (.tmp 66) (.tmp 78) 43 rfl 52 gq _ 2 32 Tryz.underlying43 gH.o gI.o gJ.o gK.o rfl (by decide) (some gb) rows2.length cb (mH rows2) rfl ((MO.o.alloc _).alloc _) (some ⟨bS.heap.size + 1,0,none⟩) 3 3 (mH [⟨fW,none,[],0⟩,⟨tl,some ⟨bS.heap.size,0,none⟩,[at0.tmod 3,lQ.tmod 2],2⟩,⟨17,none,[],0⟩]) rfl rfl (fun _=> ⟨_,rfl,x4 (bS.alloc _) (mH [⟨fW,none,[],0⟩,⟨tl,some ⟨bS.heap.size,0,none⟩,[at0.tmod 3,lQ.tmod 2],2⟩,⟨17,none,[],0⟩]) 52 _ (by simp)⟩) (R4 _) (by omega) (by omega) ?hk2)
    case hk2=>
     intro vL aiz gW F2 gX KF;obtain ⟨gt,rfl,ajY⟩:∃ XZ,vL=some XZ∧w4.heap.size≤XZ:=by
      rcases KF with h | ⟨g,h,h2⟩
      ·exact ⟨_,h,uC.o⟩
      ·refine ⟨g,h,?_⟩;have h3:=JF.o.size;omega
     rw [←R2] at F2;have ub:I [gb] bS gW:=(((I.a2 bS _ _).mono (by simp)):I [gb] bS _).trans gX;have Ac:w4.heap.size≤gb:=uC.o;have M0:=C (JF.o.cn ub (by intro x hx;simp at hx;subst hx;exact .inr Ac));have aa2:bS.heap.size≠gb:=by have:=MO.o.lt;omega
     have Zu:hr gW (some ⟨bS.heap.size,0,none⟩) [at0.tmod 3,lQ.tmod 2]:=by
      have h1:((bS.alloc (.cells #[H J (at0.tmod 3),H J (lQ.tmod 2)] 3))).heap[bS.heap.size]? =some (.cells #[H J (at0.tmod 3),H J (lQ.tmod 2)] 3 (0,0)):=heap_alloc_new bS _;have h2:=gX.heap ((I.a1 _ _).h h1) (by simp;exact aa2);intro _;refine ⟨bS.heap.size,0,rfl,fun j c8=> ?_⟩;have c8:j < 2:=c8
      rcases (show j=0∨j=1 by omega) with rfl | rfl <;> simp [World.cell?,h2]
     obtain ⟨xi,rh⟩:∃ xi,xi=rows2 ++ [⟨fW,none,[],0⟩,⟨tl,some ⟨bS.heap.size,0,none⟩,[at0.tmod 3,lQ.tmod 2],2⟩,⟨17,none,[],0⟩]:=⟨_,rfl⟩;have Bn:xi.length=rows2.length + 3:=by rw [rh];simp
     rw [←rh,←Bn] at F2;have qo:=C (show tj gW 52 (some gt) aiz xi from ⟨F2,fun r aO=> by
      rw [rh] at aO
      rcases List.mem_append.1 aO with h | h
      ·exact (j3.o.kz r h).bG M0.o (fun _ _=> by simp)
      ·simp only [List.mem_cons,List.not_mem_nil,or_false] at h
       rcases h with rfl | rfl | rfl
       ·intro h;simp at h
       ·exact Zu
       ·intro h;simp at h⟩)
     have Jm:=C (show ∀ r∈xi,r.path.length≤r.pc∧r.path.length≤1000000 from fun r aO=> by
      rw [rh] at aO
      rcases List.mem_append.1 aO with h | h
      ·refine ⟨(BR.o r h).1,?_⟩;have h1:r.s∈rows2.map ei.s:=List.mem_map_of_mem h;have h2:=oM.o r.s h1;exact h2
      ·simp only [List.mem_cons,List.not_mem_nil,or_false] at h
       rcases h with rfl | rfl | rfl <;> simp)
     have MD:=C Bn;have qn:=C (afO.o.kJ M0.o);have j3:=C (j3.o.kJ M0.o);have eV:=C (cl.o.trans M0.o);obtain ⟨ar,c1,c2,an,av,ay,ax,az,au,dg⟩:=(amf vA.o (nB.o.ah eV.o)).cells;have Bq:xi.length≤600000:=by omega
     simp only [de,Option.map_some];rw [←Bn];clear F2 gX KF ajY ub Ac aa2 Zu rh Bn;go_wp2
     go_loopw [17,18,19,20,21] (fun i _ _ _ _ wr=> ∃ k:Nat,k≤xi.length∧i=H J k∧I [] gW wr) (fun i _ _ _ _ _=> xi.length - (intOf i).toNat)
     case atStart=> exact ⟨0,Nat.zero_le _,rfl,I.refl _ _⟩
     case round=>
      obtain ⟨oc,HO,rfl,n8⟩:=hrel;have B2:=C n8;clear n8
      by_cases HR:oc < xi.length
      ·have hS:=qo.o.kJ B2.o;obtain ⟨d1,d2⟩:=hS.cells oc HR;have k1:=C (hS.kz xi[oc] (List.getElem_mem HR));have mM:=Jm.o xi[oc] (List.getElem_mem HR)
       generalize xi[oc]=rw0 at *
       obtain ⟨iN,bP,path,pc⟩:=rw0;simp only at d1 d2 k1 mM;have hI:=C mM;obtain ⟨bg,aV,a6,bl,bq,bE,bF,bH⟩:=B2.o.au ar c1 c2 an av ay ax az;have jz:=B2.o.c au;have jA:=B2.o.c dg;obtain ⟨mu,hPE⟩:∃ mu,mu=(j9 Gi.ab uQ vn iN path).1:=⟨_,rfl⟩;obtain ⟨kU,sS⟩:∃ kU,kU=(j9 Gi.ab uQ vn iN path).2:=⟨_,rfl⟩;have EU:=C (show ∀ t,kU=some t→gZ t uQ vn=0 from fun t ht=> UX (by rw [←sS];exact ht));have Qn:=C (A0.o.ah (eV.o.trans B2.o));have hat:=fun (W:World) (h:I [] wr W)=> Pg Gi uQ vn iN path bP pc W (Qn.o.ah h) (k1.o.bG h (fun _ _=> by simp)) hI.o.2;have H3:=fun (W:World) (h:I [] wr W)=> Pa Gi uQ vn iN path bP pc W (Qn.o.ah h) (k1.o.bG h (fun _ _=> by simp)) hI.o.1 hI.o.2 (by have:=G0.o;omega);obtain ⟨src,o1⟩:∃ src,src=Gi.aw:=⟨_,rfl⟩;have afY:=C (show ∀ b∈src,b < wr.heap.size by rw [o1];exact Qn.o.fi);simp only [←hPE,←sS] at hat H3;simp only [←o1] at H3;rw [vA.o] at hat H3;simp only [fV,MRe.row,List.cons_append,List.nil_append,CV] at hat H3;have gP:=C hat;have A3:=C H3;have aqG:(0:Int)≤(oc:Int):=by omega
       have aqH:(oc:Int) < (xi.length:Int):=by omega
       clear hS hat H3 mM hPE sS o1;go_upto_region 15 with fail
       go_cut [116] from 80 to 150 (fun s db=> s=F false∧∃ W:World,W=db∧I [] wr W)
       case first=>
        clear bg aV a6 bl bq bE bF bH jz jA d1 d2 ar c1 c2 an av ay ax az au dg
        by_cases ad:oc < rows2.length
        ·have gg:oc < Em.length:=by have:=tO.o;omega
         have NG:=qn.o.kJ B2.o;have NH:=j3.o.kJ B2.o
         cases a1 with
         | none=> exfalso;have h1:=NG.iJ.2;have h2:Em.length=0:=h1.1;omega
         | some g1=>
         cases a2 with
         | none=> exfalso;have h1:=NH.iJ.2;have h2:rows2.length=0:=h1.1;omega
         | some g2=>
         simp only [Option.map_some];obtain ⟨cT,s2⟩:=NH.cells oc ad;obtain ⟨t1,fu⟩:=NG.cells oc gg;have i2:=NH.kz rows2[oc] (List.getElem_mem ad);have i1:=NG.kz Em[oc] (List.getElem_mem gg);have hp:Em[oc].s=rows2[oc].s:=by
          have h1:(Em.map ei.s)[oc]'(by simpa using gg)=(rows2.map ei.s)[oc]'(by simpa using ad):=by
           simp only [jr.o]
          simpa using h1
         have Ll:=oM.o rows2[oc].s (List.mem_map_of_mem (List.getElem_mem ad))
         generalize rows2[oc]=iz at *
         generalize Em[oc]=ju at *
         obtain ⟨z1,amc,p1,amm⟩:=ju;obtain ⟨z2,Gr,p2,amn⟩:=iz;obtain ⟨rfl,rfl⟩:z1=z2∧p1=p2:=by simpa [ei.s] using hp
         simp only [ei.s] at cT s2 t1 fu i1 i2 Ll;have akU:(z1 !=z1)=false:=by simp
         have wZ:decide (p1=p1)=true:=by simp
         have P1:=C i1;have ae1:=C i2;have ij:=fun n=> anK amc Gr amm amn p1 p1 (wr.drewN n) (P1.o.drewN n) (ae1.o.drewN n) (by omega) (by omega);rw [wZ] at ij;have jx:=C ij;have hk2:(oc:Int) < (rows2.length:Int):=by omega
         clear NG NH i1 i2 hp wZ ij
         go_quiet ((go_at_call 26;exact Calls.quiet_of (jx.o _)))
         go_wp2;go_meet;exact ⟨rfl,_,rfl,(I.refl [] wr).drewN _⟩
        ·have NW:decide ((oc:Int) < (rows2.length:Int))=false:=by simp;omega
         go_quiet (fail)
         go_wp2;go_meet;exact ⟨rfl,_,rfl,(I.refl [] wr).drewN _⟩
       case rest=>
       obtain ⟨rfl,uO,rfl,ub⟩:=hcut;have eS:=C (B2.o.trans ub);have dx:=ub.au bg aV a6 bl bq bE bF bH;clear bg aV a6 bl bq bE bF bH;obtain ⟨bg,aV,a6,bl,bq,bE,bF,bH⟩:=dx;replace jz:=ub.c jz;replace jA:=ub.c jA;replace d1:=ub.c d1;replace d2:=ub.c d2;have gP:=C (fun (W:World) (h:I [] uO W)=> gP.o W (ub.trans h));have A3:=C (fun (W:World) (h:I [] uO W)=> A3.o W (ub.trans h));have V6:=C (show ∀ b∈src,b < uO.heap.size from fun b ad=> by have:=afY.o b ad;have:=ub.size;omega);clear ub ar c1 c2 an av ay ax az au dg;go_upto_region 17 with fail
       go_cut [18,19] from 80 to 150 (fun AE Gz db=> ∃ (aG:Nat) (ae:MRe) (vN:Int) (wo:Bool) (ak:World),AE=.pointer (some ⟨aG,0,none⟩)∧Gz=H J mu∧ak=db∧ae.ab=kU.getD .nil∧vN=(if kU.isSome then uQ else 0)∧wo=(kU.isSome && vn)∧ae.aK ak∧I [] uO ak∧ak.heap[aG]? =some (.cells (ae.row ++ [H J vN,Value.bool wo]).toArray 28 (0,0)))
       case first=>
        have eA:=C ((I.refl [] uO).drew);refine rg (S:=fun w'=> (w'.cell? ⟨pO,kk * 10,none⟩=some (H J op1)∧w'.cell? ⟨pO,kk * 10 + 1,none⟩=some (M aM set1.length aN)∧w'.cell? ⟨pO,kk * 10 + 2,none⟩=some (M aS aq.length kc1)∧w'.cell? ⟨pO,kk * 10 + 3,none⟩=some (H J mn1)∧w'.cell? ⟨pO,kk * 10 + 4,none⟩=some (H J aI)∧w'.cell? ⟨pO,kk * 10 + 5,none⟩=some (H J mode1)∧w'.cell? ⟨pO,kk * 10 + 6,none⟩=some (H J n1)∧w'.cell? ⟨pO,kk * 10 + 7,none⟩=some (F aL))∧w'.cell? ⟨pO,kk * 10 + 8,none⟩=some (H J uQ)∧w'.cell? ⟨pO,kk * 10 + 9,none⟩=some (F vn)∧w'.cell? ⟨gt,oc * 2,none⟩=some (H J iN)∧w'.cell? ⟨gt,oc * 2 + 1,none⟩=some (M bP path.length pc)) (fun _ k=> ⟨(k.au bg aV a6 bl bq bE bF bH),k.c jz,k.c jA,k.c d1,k.c d2⟩) fun bM aF=> ?_;refine ag 0 ?_;refine ag 1 ?_;refine ag 2 ?_;refine ag 3 ?_;refine ag 4 ?_;refine ag 5 ?_;refine ag 6 ?_;refine ag 7 ?_;refine kX 8 13 (fun ai af=> ?_) fun ai af=> ?_;go_simp;refine Calls.mono (UY iN bP path.length pc _) ?_;rintro gz w4 ⟨rfl,bc⟩;have cl:=C (eA.o.trans bc);clear bc;refine af.out _ _ (bM.o _ cl.o) fun aF=> ?_;clear af ai;try go_frame
        refine kX 9 13 (fun ai af=> ?_) fun ai af=> ?_;go_simp;refine Calls.mono (gP.o _ cl.o) ?_;rintro gz bS ⟨ae,nH,nU,rfl,a7,iA,iF,aT,hk5,hqf⟩;obtain ⟨q0,bN⟩:∃ q0,q0=ae:=⟨_,rfl⟩;rw [←bN] at a7 aT hqf;have dt:=C bN;have dK:=C a7;have ti:=C (And.intro iA iF);obtain ⟨bA,bB,bC,bD,bs,bt,bu,bo,bx,bw,bp,bz⟩:=ae;simp only [fV,MRe.row,List.cons_append,List.nil_append];clear bN a7 iA iF;obtain ⟨aG,fP⟩:∃ aG,aG=bS.heap.size:=⟨_,rfl⟩;obtain ⟨gf,hO⟩:∃ gf,gf=bS.alloc hN:=⟨_,rfl⟩;have fw:I [] bS gf:=by rw [hO];exact I.a1 _ _
        have j4:=C (cl.o.trans hk5);have tg:=C (show gf.heap[aG]? =some hN by rw [hO,fP];exact heap_alloc_new bS _);have pn:=C (j4.o.trans fw);have mT:=C (show uO.heap.size≤aG by rw [fP];exact j4.o.size);have dA:=C (aT.ah fw);have uM:=C (show ∀ b∈q0.aw,b≠aG from fun b ad=> by have:=aT.fi b ad;omega);refine af.out _ _ (bM.o _ j4.o) fun aF=> ?_;clear af ai;try go_frame
        refine ag 10 ?_;refine ag 11 ?_;refine ag 12 ?_;refine bh 13 fun ai af=> ?_;go_simp;rw [←hO,←fP];refine af.out _ _ (bM.o _ pn.o) fun aF=> ?_;clear af ai;try go_frame
        clear aT hk5 hqf fP hO fw
        rotate_left
        go_simp;obtain ⟨aG,fP⟩:∃ aG,aG=w4.heap.size:=⟨_,rfl⟩;obtain ⟨mb,mg⟩:∃ mb,mb=w4.alloc hN:=⟨_,rfl⟩;have fw:I [] w4 mb:=by rw [mg];exact I.a1 _ _
        have lz:=C (show mb.heap[aG]? =some hN by rw [mg,fP];exact heap_alloc_new _ _);have mT:=C (show uO.heap.size≤aG by rw [fP];exact cl.o.size);have dr:=C (cl.o.trans fw);rw [←mg,←fP];refine af.out _ _ (bM.o _ dr.o) fun aF=> ?_;clear af ai;try go_frame
        clear fP mg fw;refine bh 9 fun ai af=> ?_;go_simp;refine Calls.mono (gP.o _ dr.o) ?_;rintro gz bS ⟨ae,nH,nU,rfl,a7,iA,iF,aT,hk5,hqf⟩;obtain ⟨q0,bN⟩:∃ q0,q0=ae:=⟨_,rfl⟩;rw [←bN] at a7 aT hqf;have dt:=C bN;have dK:=C a7;have ti:=C (And.intro iA iF);obtain ⟨bA,bB,bC,bD,bs,bt,bu,bo,bx,bw,bp,bz⟩:=ae;simp only [fV,MRe.row,List.cons_append,List.nil_append];clear bN a7 iA iF;obtain ⟨gf,hO⟩:∃ gf,gf=bS:=⟨_,rfl⟩;have tg:=C (show gf.heap[aG]? =some hN by rw [hO];exact hk5.h lz.o);have pn:=C (show I [] uO gf by rw [hO];exact dr.o.trans hk5);have dA:=C (show q0.aK gf by rw [hO];exact aT);have uM:=C (show ∀ b∈q0.aw,b≠aG from fun b ad=> by have:=hqf b ad;have:=lt_of_block lz.o;omega);rw [←hO];refine af.out _ _ (bM.o _ pn.o) fun aF=> ?_;clear af ai;try go_frame
        clear aT hk5 hqf hO;refine ag 10 ?_;refine ag 11 ?_;refine ag 12 ?_;rotate_left;go_simp;obtain ⟨aG,fP⟩:∃ aG,aG=uO.heap.size:=⟨_,rfl⟩;obtain ⟨mb,mg⟩:∃ mb,mb=(uO.alloc hN).drew:=⟨_,rfl⟩;have fw:I [] uO mb:=by rw [mg];exact (I.a1 _ _).drew
        have lz:=C (show mb.heap[aG]? =some hN by rw [mg,fP];exact heap_alloc_new _ _);have mT:=C (show uO.heap.size≤aG by rw [fP];exact (I.refl [] uO).size);have dr:=C ((I.refl [] uO).trans fw);rw [←mg,←fP];refine af.out _ _ (bM.o _ dr.o) fun aF=> ?_;clear af ai;try go_frame
        clear fP mg fw;refine bh 8 fun ai af=> ?_;go_simp;refine Calls.mono (UY iN bP path.length pc _) ?_;rintro gz w4 ⟨rfl,bc⟩;replace lz:=C (bc.h lz.o);replace dr:=C (dr.o.trans bc);clear bc;refine af.out _ _ (bM.o _ dr.o) fun aF=> ?_;clear af ai;try go_frame
        refine bh 9 fun ai af=> ?_;go_simp;refine Calls.mono (gP.o _ dr.o) ?_;rintro gz bS ⟨ae,nH,nU,rfl,a7,iA,iF,aT,hk5,hqf⟩;obtain ⟨q0,bN⟩:∃ q0,q0=ae:=⟨_,rfl⟩;rw [←bN] at a7 aT hqf;have dt:=C bN;have dK:=C a7;have ti:=C (And.intro iA iF);obtain ⟨bA,bB,bC,bD,bs,bt,bu,bo,bx,bw,bp,bz⟩:=ae;simp only [fV,MRe.row,List.cons_append,List.nil_append];clear bN a7 iA iF;obtain ⟨gf,hO⟩:∃ gf,gf=bS:=⟨_,rfl⟩;have tg:=C (show gf.heap[aG]? =some hN by rw [hO];exact hk5.h lz.o);have pn:=C (show I [] uO gf by rw [hO];exact dr.o.trans hk5);have dA:=C (show q0.aK gf by rw [hO];exact aT);have uM:=C (show ∀ b∈q0.aw,b≠aG from fun b ad=> by have:=hqf b ad;have:=lt_of_block lz.o;omega);rw [←hO];refine af.out _ _ (bM.o _ pn.o) fun aF=> ?_;clear af ai;try go_frame
        clear aT hk5 hqf hO;refine ag 10 ?_;refine ag 11 ?_;refine ag 12 ?_
        all_goals
         refine bh 14 fun ai af=> ?_;refine wp_store_row 28 (.tmp 18) (.tmp 128) rfl aG #[H J bA,M bB bD.length bC,M bs bu.length bt,H J bo,H J bx,H J bw,H J bp,F bz,H J nH,F nU] rfl rfl 28 #[H J 0,M none 0 0,M none 0 0,H J 0,H J 0,H J 0,H J 0,F false,H J 0,F false] tg.o kO rfl (zb _ _ _ _ _ _ _ _ _ _ _ _ _ _) ?_;obtain ⟨eL,cY⟩:∃ eL,eL=gf.setRow aG #[H J bA,M bB bD.length bC,M bs bu.length bt,H J bo,H J bx,H J bw,H J bp,F bz,H J nH,F nU]:=⟨_,rfl⟩;have c3:I [aG] gf eL:=by rw [cY];exact (I.refl [aG] gf).setRow (.inl (by simp)) _
         have qq:=C (show eL.heap[aG]? =some (.cells #[H J bA,M bB bD.length bC,M bs bu.length bt,H J bo,H J bx,H J bw,H J bp,F bz,H J nH,F nU] 28 (0,0)) by rw [cY];exact setRow_heap gf aG _ _ _ _ tg.o);rw [←cY];have dG:=C (show I [] uO eL from pn.o.cn c3 (by intro x hx;simp at hx;subst hx;exact .inr mT.o));have wJ:=C (dA.o.bG c3 fun b ad=> by have:=uM.o b ad;simpa using this);refine af.out _ _ (bM.o _ dG.o) fun aF=> ?_;clear af ai cY c3;try go_frame
         refine ag 15 ?_;refine dR ?_;go_wp2;go_meet;exact ⟨aG,q0,nH,nU,eL,rfl,rfl,rfl,dK.o,ti.o.1,ti.o.2,wJ.o,dG.o,by rw [dt.o];exact qq.o⟩
       case rest=>
       obtain ⟨Ez,y,vN,wo,wP,rfl,rfl,rfl,F7,DK,Lt,xX,tv,K3⟩:=hcut;obtain ⟨c6,oa⟩:∃ c6,c6=y:=⟨_,rfl⟩;rw [←oa] at F7 xX;have E9:=C oa;have Ri:=C F7;have Rh:=C xX;have JR:=C (And.intro DK Lt);have fU:=C tv;obtain ⟨cK,cL,cM,cN,cD,cE,cF,cG,cI,cH,cu,cJ⟩:=y;have AU:=C (show wP.heap[Ez]? =some (.cells #[H J cK,M cL cN.length cM,M cD cF.length cE,H J cG,H J cI,H J cH,H J cu,F cJ,H J vN,F wo] 28 (0,0)) from K3);have dx:=tv.au bg aV a6 bl bq bE bF bH;clear bg aV a6 bl bq bE bF bH;obtain ⟨bg,aV,a6,bl,bq,bE,bF,bH⟩:=dx;replace jz:=tv.c jz;replace jA:=tv.c jA;replace d1:=tv.c d1;replace d2:=tv.c d2;have A3:=C (fun (W:World) (h:I [] wP W)=> A3.o W (tv.trans h));have A4:=C (show ∀ b∈src,b < wP.heap.size from fun b ad=> by have:=V6.o b ad;have:=tv.size;omega);clear F7 xX tv K3 oa DK Lt gP;go_upto_region 18 with fail
       go_cut [20,21] from 80 to 150 (fun AE Gz db=> ∃ (aG:Nat) (ae:MRe) (vN:Int) (wo:Bool) (ak:World),AE=.pointer (some ⟨aG,0,none⟩)∧Gz=H J mu∧ak=db∧ae.ab=kU.getD .nil∧vN=(if kU.isSome then uQ else 0)∧wo=(kU.isSome && vn)∧ae.aK ak∧I [] wP ak∧ak.heap[aG]? =some (.cells (ae.row ++ [H J vN,Value.bool wo]).toArray 28 (0,0)))
       case first=>
        have eA:=C ((I.refl [] wP).drew);refine rg (S:=fun w'=> (w'.cell? ⟨pO,kk * 10,none⟩=some (H J op1)∧w'.cell? ⟨pO,kk * 10 + 1,none⟩=some (M aM set1.length aN)∧w'.cell? ⟨pO,kk * 10 + 2,none⟩=some (M aS aq.length kc1)∧w'.cell? ⟨pO,kk * 10 + 3,none⟩=some (H J mn1)∧w'.cell? ⟨pO,kk * 10 + 4,none⟩=some (H J aI)∧w'.cell? ⟨pO,kk * 10 + 5,none⟩=some (H J mode1)∧w'.cell? ⟨pO,kk * 10 + 6,none⟩=some (H J n1)∧w'.cell? ⟨pO,kk * 10 + 7,none⟩=some (F aL))∧w'.cell? ⟨pO,kk * 10 + 8,none⟩=some (H J uQ)∧w'.cell? ⟨pO,kk * 10 + 9,none⟩=some (F vn)∧w'.cell? ⟨gt,oc * 2,none⟩=some (H J iN)∧w'.cell? ⟨gt,oc * 2 + 1,none⟩=some (M bP path.length pc)) (fun _ k=> ⟨(k.au bg aV a6 bl bq bE bF bH),k.c jz,k.c jA,k.c d1,k.c d2⟩) fun bM aF=> ?_;refine ag 0 ?_;refine ag 1 ?_;refine ag 2 ?_;refine ag 3 ?_;refine ag 4 ?_;refine ag 5 ?_;refine ag 6 ?_;refine ag 7 ?_;refine kX 8 12 (fun ai af=> ?_) fun ai af=> ?_;go_simp;refine Calls.mono (A3.o _ eA.o) ?_;rintro gz bS ⟨ae,nH,nU,rfl,a7,iA,iF,aT,hk5,hqf⟩;obtain ⟨q0,bN⟩:∃ q0,q0=ae:=⟨_,rfl⟩;rw [←bN] at a7 aT hqf;have dt:=C bN;have dK:=C a7;have ti:=C (And.intro iA iF);obtain ⟨bA,bB,bC,bD,bs,bt,bu,bo,bx,bw,bp,bz⟩:=ae;simp only [fV,MRe.row,List.cons_append,List.nil_append];clear bN a7 iA iF;obtain ⟨aG,fP⟩:∃ aG,aG=bS.heap.size:=⟨_,rfl⟩;obtain ⟨gf,hO⟩:∃ gf,gf=bS.alloc hN:=⟨_,rfl⟩;have fw:I [] bS gf:=by rw [hO];exact I.a1 _ _
        have j4:=C (eA.o.trans hk5);have tg:=C (show gf.heap[aG]? =some hN by rw [hO,fP];exact heap_alloc_new bS _);have pn:=C (j4.o.trans fw);have mT:=C (show wP.heap.size≤aG by rw [fP];exact j4.o.size);have dA:=C (aT.ah fw);have uM:=C (show ∀ b∈q0.aw,b≠aG from fun b ad=> by have:=aT.fi b ad;omega);refine af.out _ _ (bM.o _ j4.o) fun aF=> ?_;clear af ai;try go_frame
        refine ag 9 ?_;refine ag 10 ?_;refine ag 11 ?_;refine bh 12 fun ai af=> ?_;go_simp;rw [←hO,←fP];refine af.out _ _ (bM.o _ pn.o) fun aF=> ?_;clear af ai;try go_frame
        clear aT hk5 hqf fP hO fw
        rotate_left
        go_simp;obtain ⟨aG,fP⟩:∃ aG,aG=wP.heap.size:=⟨_,rfl⟩;obtain ⟨mb,mg⟩:∃ mb,mb=(wP.alloc hN).drew:=⟨_,rfl⟩;have fw:I [] wP mb:=by rw [mg];exact (I.a1 _ _).drew
        have lz:=C (show mb.heap[aG]? =some hN by rw [mg,fP];exact heap_alloc_new _ _);have mT:=C (show wP.heap.size≤aG by rw [fP];exact (I.refl [] wP).size);have dr:=C ((I.refl [] wP).trans fw);rw [←mg,←fP];refine af.out _ _ (bM.o _ dr.o) fun aF=> ?_;clear af ai;try go_frame
        clear fP mg fw;refine bh 8 fun ai af=> ?_;go_simp;refine Calls.mono (A3.o _ dr.o) ?_;rintro gz bS ⟨ae,nH,nU,rfl,a7,iA,iF,aT,hk5,hqf⟩;obtain ⟨q0,bN⟩:∃ q0,q0=ae:=⟨_,rfl⟩;rw [←bN] at a7 aT hqf;have dt:=C bN;have dK:=C a7;have ti:=C (And.intro iA iF);obtain ⟨bA,bB,bC,bD,bs,bt,bu,bo,bx,bw,bp,bz⟩:=ae;simp only [fV,MRe.row,List.cons_append,List.nil_append];clear bN a7 iA iF;obtain ⟨gf,hO⟩:∃ gf,gf=bS:=⟨_,rfl⟩;have tg:=C (show gf.heap[aG]? =some hN by rw [hO];exact hk5.h lz.o);have pn:=C (show I [] wP gf by rw [hO];exact dr.o.trans hk5);have dA:=C (show q0.aK gf by rw [hO];exact aT);have uM:=C (show ∀ b∈q0.aw,b≠aG from fun b ad=> by
         rcases hqf b ad with h | h
         ·have:=A4.o b h;have:=mT.o;omega
         ·have:=lt_of_block lz.o;omega)
        rw [←hO];refine af.out _ _ (bM.o _ pn.o) fun aF=> ?_;clear af ai;try go_frame
        clear aT hk5 hqf hO;refine ag 9 ?_;refine ag 10 ?_;refine ag 11 ?_
        all_goals
         refine bh 13 fun ai af=> ?_;refine wp_store_row 28 (.tmp 20) (.tmp 140) rfl aG #[H J bA,M bB bD.length bC,M bs bu.length bt,H J bo,H J bx,H J bw,H J bp,F bz,H J nH,F nU] rfl rfl 28 #[H J 0,M none 0 0,M none 0 0,H J 0,H J 0,H J 0,H J 0,F false,H J 0,F false] tg.o kO rfl (zb _ _ _ _ _ _ _ _ _ _ _ _ _ _) ?_;obtain ⟨eL,cY⟩:∃ eL,eL=gf.setRow aG #[H J bA,M bB bD.length bC,M bs bu.length bt,H J bo,H J bx,H J bw,H J bp,F bz,H J nH,F nU]:=⟨_,rfl⟩;have c3:I [aG] gf eL:=by rw [cY];exact (I.refl [aG] gf).setRow (.inl (by simp)) _
         have qq:=C (show eL.heap[aG]? =some (.cells #[H J bA,M bB bD.length bC,M bs bu.length bt,H J bo,H J bx,H J bw,H J bp,F bz,H J nH,F nU] 28 (0,0)) by rw [cY];exact setRow_heap gf aG _ _ _ _ tg.o);rw [←cY];have dG:=C (show I [] wP eL from pn.o.cn c3 (by intro x hx;simp at hx;subst hx;exact .inr mT.o));have wJ:=C (dA.o.bG c3 fun b ad=> by have:=uM.o b ad;simpa using this);refine af.out _ _ (bM.o _ dG.o) fun aF=> ?_;clear af ai cY c3;try go_frame
         refine ag 14 ?_;refine dR ?_;go_wp2;go_meet;exact ⟨aG,q0,nH,nU,eL,rfl,rfl,rfl,dK.o,ti.o.1,ti.o.2,wJ.o,dG.o,by rw [dt.o];exact qq.o⟩
       case rest=>
       obtain ⟨PH,z,Du,Eo,eu,rfl,rfl,rfl,Ea,KS,Lu,F8,i4,Zs⟩:=hcut;have yI:Du=vN:=by rw [KS,JR.o.1]
       have py:Eo=wo:=by rw [Lu,JR.o.2]
       subst yI;subst py;obtain ⟨z0,dQ⟩:∃ z0,z0=z:=⟨_,rfl⟩;rw [←dQ] at Ea F8;have kT:=C i4;have ij:=UD c6 z0 Du Eo eu (Rh.o.ah kT.o) F8 (by rw [Ri.o,Ea]) (by
        rw [Ea]
        cases hp:kU with
        | none=> decide
        | some t=> have:=(ya (EU.o t hp)).2.1;simp only [Option.getD_some];omega)
       rw [E9.o,dQ] at ij;obtain ⟨fJ,fK,fL,fM,fC,fD,fE,fF,fH,fG,fm,fI⟩:=z;simp only [fV,MRe.row,List.cons_append,List.nil_append] at ij;have jx:=C ij;obtain ⟨ep,aJ,cP,eM,eF,eN,eO,eP,Kb,Kc,vO⟩:=fR (kT.o.h AU.o);obtain ⟨g0,g1,g2,g3,kx,k4,dz,kE,fr,vQ,Ci⟩:=fR (show eu.heap[PH]? =some (.cells #[H J fJ,M fK fM.length fL,M fC fE.length fD,H J fF,H J fH,H J fG,H J fm,F fI,H J Du,F Eo] 28 (0,0)) from Zs);have aqo:(mu !=mu)=false:=by simp
       have k3:=C ((eS.o.trans fU.o).trans kT.o);clear Ea KS Lu F8 i4 Zs dQ ij vO Ci bg aV a6 bl bq bE bF bH jz jA d1 d2 A3;go_wp2_with fail
       refine Calls.mono jx.o ?_;rintro e eB ⟨rfl,ie⟩;have q3:=C (k3.o.trans ie);clear ie jx ep aJ cP eM eF eN eO eP Kb Kc g0 g1 g2 g3 kx k4 dz kE fr vQ;go_wp2;go_roundw
       case rel=> exact ⟨oc + 1,by omega,by go_num,q3.o⟩
       case measure=> simp [intOf];omega
      ·have mK:¬ (oc:Int) < (xi.length:Int):=by omega
       have gu:=C ((zw.o.trans eV.o).trans B2.o);clear ar c1 c2 an av ay ax az au dg;go_wp2;go_roundw
       case rel=> exact ⟨kk + 1,by omega,by go_num,gu.o⟩
       case measure=> simp [intOf];omega
  ·have mK:¬ (kk:Int) < 2:=by omega
   go_wp2_with fail
   refine Calls.mono (lives_any _) ?_;rintro gz w3 ⟨rfl,aP⟩;have aR:=C ((dG.o.trans zw.o).trans aP);clear aP;go_wp2;go_ret;exact ⟨rfl,aR.o⟩
end Go.Proofs.YtjnlkjlbejelgaaGreat
