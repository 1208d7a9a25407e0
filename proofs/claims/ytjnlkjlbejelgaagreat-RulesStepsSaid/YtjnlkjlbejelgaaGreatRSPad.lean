/- Part of the proof. No condition: every lemma says its own. -/
import Derived.Test.YtjnlkjlbejelgaaGreatRSPac
namespace Go.Proofs.YtjnlkjlbejelgaaGreat
open Go.RowKit
open Go.Value renaming int→H,slice→M,bool→F
open Go.IntKind renaming i64→J
set_option maxRecDepth 100000
set_option maxHeartbeats 16000000
theorem GH (m:MRe) (i j:Nat) (cS:Option Addr) (dH:Nat) (l:List MRe) (w:World) (aj:m.aK w) (hl:gT w cS dH l) (N1:i≤j) (c8:j≤m.kids.length) (h0:0 < m.kids.length) (ad:m.kids.length + l.length≤1000000):
  Calls Tryz.prog 114 #[m.val,H J i,H J j,M cS l.length dH] w fun e w'=> ∃ r:MRe,e=.returned (.tuple #[r.val,F true])∧r.ab=hF m.ab.op m.ab.kids i j (MRe.al l)∧r.aK w'∧I [] w w'∧du w.heap.size (m.aw ++ MRe.dN l) r.aw:=by
 obtain ⟨op,sa,sc,set,ka,kc,kids,mn,mx,mode,n,neg⟩:=m;simp only [MRe.kids] at c8 h0 ad;obtain ⟨b,off,rfl,lk,_⟩:=aj.ch.dy h0;have hcap:=aj.ch.cap;have fc:=aj.ch.le;unfold maxLen at hcap;have dB:=aj.ch.drop j c8;have b6:=C aj.kids;have jG:=C hl;simp only [MRe.val];have gQ:∀ W:World,(Instr.sliceAt 24 (M (some ⟨b,off,none⟩) kids.length kc) none (some (H J i)) none).run Tryz.prog W=.ok (M (some ⟨b,off,none⟩) i kc) W:=by
  intro W;have q2:(i:Int)≤kc:=by omega
  simp [go_sem,q2]
 have gn:∀ W:World,(Instr.sliceAt 24 (M (some ⟨b,off,none⟩) kids.length kc) (some (H J j)) none none).run Tryz.prog W=.ok (M (if kc=j then some ⟨b,off,none⟩ else some ⟨b,off + j * 8,none⟩) (kids.length - j) (kc - j)) W:=by
  intro W;have q1:(j:Int)≤kids.length:=by omega
  simp [go_sem,q1]
 obtain ⟨rN,yK⟩:∃ rN,rN=(if kc=j then some (⟨b,off,none⟩:Addr) else some ⟨b,off + j * 8,none⟩):=⟨_,rfl⟩;rw [←yK] at dB gn;obtain ⟨parts,HY⟩:∃ parts:List Part,parts=[⟨some ⟨b,off,none⟩,kc,kids.take i⟩,⟨cS,dH,l⟩,⟨rN,kc - j,kids.drop j⟩]:=⟨_,rfl⟩;have fB:parts.flatMap Part.kids=kids.take i ++ (l ++ kids.drop j):=by rw [HY];simp
 have j7:tb parts≤1000000:=by unfold tb;rw [fB];simp only [List.length_append,List.length_take,List.length_drop];omega
 have hpo:∀ p∈parts,gT w p.ka p.kc p.kids:=by
  intro p hp;rw [HY] at hp;simp only [List.mem_cons,List.not_mem_nil,or_false] at hp
  rcases hp with rfl | rfl | rfl
  ·exact ⟨aj.ch.take i,fun x hx=> aj.dy (List.mem_of_mem_take hx)⟩
  ·exact hl
  ·exact ⟨dB,fun x hx=> aj.dy (List.mem_of_mem_drop hx)⟩
 have Yh:∀ aE:World,I [] w aE→Calls Tryz.prog 141 #[M (some ⟨aE.heap.size,0,none⟩) 3 3] (aE.alloc (.cells #[M (some ⟨b,off,none⟩) i kc,M cS l.length dH,M rN (kids.length - j) (kc - j)] 24)).drew fun e w'=> ∃ dZ c',e=.returned (de dZ (tb parts) c')∧gT w' (dZ.map fun g=> ⟨g,0,none⟩) c' (kids.take i ++ (l ++ kids.drop j))∧I [] aE w'∧(∀ g,dZ=some g→aE.heap.size≤g):=by
  intro aE hX;have gC:I [] aE (aE.alloc (.cells #[M (some ⟨b,off,none⟩) i kc,M cS l.length dH,M rN (kids.length - j) (kc - j)] 24)).drew:=(I.a1 aE _).drew;have h:=aiy aE.heap.size parts (aE.alloc (.cells #[M (some ⟨b,off,none⟩) i kc,M cS l.length dH,M rN (kids.length - j) (kc - j)] 24)).drew ?_ (fun p hp=> (hpo p hp).ah (hX.trans gC)) j7 (by rw [HY];simp)
  ·rw [fB] at h;rw [show parts.length=3 by rw [HY];rfl] at h;exact h.mono fun e w' ⟨dZ,c',he,hk,ck,hf⟩=> ⟨dZ,c',he,hk,gC.trans ck,fun g hg=> Nat.le_trans gC.size (hf g hg)⟩
  ·intro ae hq;subst HY;have hc:=fun ae=> Bd aE #[M (some ⟨b,off,none⟩) i kc,M cS l.length dH,M rN (kids.length - j) (kc - j)] 24 ae;simp only [List.length_cons,List.length_nil] at hq
   show (aE.alloc _).cell? _=_
   rw [hc];obtain rfl | rfl | rfl:ae=0∨ae=1∨ae=2:=by omega
   ·have:(kids.take i).length=i:=by rw [List.length_take];omega
    simp [Part.val,this]
   ·simp [Part.val]
   ·simp [Part.val]
 have Vv:=C Yh;have sn:hF op (MRe.al kids) i j (MRe.al l)=im op (MRe.al (kids.take i ++ (l ++ kids.drop j))):=by
  unfold hF
  congr 1
  simp [MRe.kP]
 have tQ:=C sn;have hbk:∀ ae∈MRe.dN (kids.take i ++ (l ++ kids.drop j)),ae∈(MRe.node op sa sc set (some ⟨b,off,none⟩) kc kids mn mx mode n neg).aw ++ MRe.dN l:=fun x hx=> by
  obtain ⟨y,hy,Ar⟩:=MRe.tm hx
  rcases List.mem_append.1 hy with hy | hy
  ·exact List.mem_append_left _ (mF (List.mem_of_mem_take hy) x Ar)
  ·rcases List.mem_append.1 hy with hy | hy
   ·exact List.mem_append_right _ (MRe.mQ hy Ar)
   ·exact List.mem_append_left _ (mF (List.mem_of_mem_drop hy) x Ar)
 have aQ:∀ ae∈(MRe.node op sa sc set (some ⟨b,off,none⟩) kc kids mn mx mode n neg).aw ++ MRe.dN l,ae < w.heap.size:=fun x hx=> by
  rcases List.mem_append.1 hx with hx | hx
  ·exact aj.fi x hx
  ·exact hl.fi x hx
 have fY:=C hbk;have eU:=C aQ;clear hbk aQ;have aay:tb parts=(kids.take i ++ (l ++ kids.drop j)).length:=by unfold tb;rw [fB]
 rw [aay] at Vv;clear Yh hpo fB j7 aay HY sn dB aj hl yK
 generalize kids.take i ++ (l ++ kids.drop j)=ks at *
 obtain ⟨src,o1⟩:∃ src,src=(MRe.node op sa sc set (some ⟨b,off,none⟩) kc kids mn mx mode n neg).aw ++ MRe.dN l:=⟨_,rfl⟩;rw [←o1] at fY eU ⊢;clear o1;go_enter Tryz.func114,Tryz.ntmps114
 go_upto_region 1 with fail
 have dv:=(I.a1 (w.alloc (bf op sa set sc (some ⟨b,off,none⟩) kids kc mn mx mode n neg)) cO).cell (Bd w #[H J op,M sa set.length sc,M (some ⟨b,off,none⟩) kids.length kc,H J mn,H J mx,H J mode,H J n,F neg] 26 0) (by simp);have ea:=(I.a1 (w.alloc (bf op sa set sc (some ⟨b,off,none⟩) kids kc mn mx mode n neg)) cO).cell (Bd w #[H J op,M sa set.length sc,M (some ⟨b,off,none⟩) kids.length kc,H J mn,H J mx,H J mode,H J n,F neg] 26 2) (by simp);have aW:=heap_alloc2_new w (bf op sa set sc (some ⟨b,off,none⟩) kids kc mn mx mode n neg) cO;have cq:=I.a2 w (bf op sa set sc (some ⟨b,off,none⟩) kids kc mn mx mode n neg) cO;obtain ⟨U,gA⟩:∃ U,U=w.heap.size:=⟨_,rfl⟩;rw [←gA] at dv ea aW ⊢;have si:w.heap.size=U:=by omega
 have aqh:U + 2≤((w.alloc (bf op sa set sc (some ⟨b,off,none⟩) kids kc mn mx mode n neg)).alloc cO).heap.size:=by simp;omega
 generalize (w.alloc (bf op sa set sc (some ⟨b,off,none⟩) kids kc mn mx mode n neg)).alloc cO=aE at *
 replace dv:aE.cell? ⟨U,0,none⟩=some (H J op):=dv;replace ea:aE.cell? ⟨U,2,none⟩=some (M (some ⟨b,off,none⟩) kids.length kc):=ea;have ba:=C aW;have hM:=C cq;have nh:=C si;clear aW cq gA si
 go_region_held3 (fun w'=> w'.cell? ⟨U,0,none⟩=some (H J op)∧w'.cell? ⟨U,2,none⟩=some (M (some ⟨b,off,none⟩) kids.length kc))
  (with_reducible first | exact ⟨((I.refl [] aE).drew).c dv,((I.refl [] aE).drew).c ea⟩ | exact ⟨er.o.c dv,er.o.c ea⟩ | exact ⟨jD.o.c dv,jD.o.c ea⟩ | exact ⟨((I.refl [] aE).alloc _).drew.c dv,((I.refl [] aE).alloc _).drew.c ea⟩ | exact ⟨k0.o.c dv,k0.o.c ea⟩ | fail)
  (first
   | (go_at_call 141;refine Calls.mono (Vv.o aE hM.o) ?_;rintro e w3 ⟨a3,an,rfl,hks,aP,FA⟩;have er:=C aP;have fZ:=C hks;have yk:=C FA;simp only [de];clear hks aP FA)
   | (go_at_call 121;refine Calls.mono (Ir op (a3.map fun g=> ⟨g,0,none⟩) an ks w3 fZ.o) ?_;rintro e w4 ⟨r,rfl,mh,va,bc,xW⟩;have jD:=C (er.o.trans bc);have mq:=C mh;have BW:=C va;have Da:=C xW;have zs:=C ((er.o.trans bc).h ba.o);obtain ⟨gV,uY⟩:∃ gV,gV=r:=⟨_,rfl⟩;rw [←uY] at mq BW Da;have dW:=C uY;clear mh va bc uY xW;obtain ⟨bA,bB,bC,bD,bs,bt,bu,bo,bx,bw,bp,bz⟩:=r;simp only [MRe.val];obtain ⟨z0,z1,z2,z3,z4,z5,b9,cc,cj⟩:=ew zs.o;have k0:=C (show I [U + 1] aE (hE w4 (U + 1) (H J bA) (M bB bD.length bC) (M bs bu.length bt) (H J bo) (H J bx) (H J bw) (H J bp) (F bz)) from (jD.o.mono (by simp)).trans (jv _ _ _ _ _ _ _ _ _ _))))
 have aY:=rm zs.o (H J bA) (M bB bD.length bC) (M bs bu.length bt) (H J bo) (H J bx) (H J bw) (H J bp) (F bz);have va:du w.heap.size src gV.aw:=fun x hx=> by
  rcases List.mem_append.1 (Da.o x hx) with h | h
  ·have:=(lV.zJ yk.o) x h
   rw [nh.o];exact .inr (by omega)
  ·exact .inl (fY.o x h)
 have hnb:∀ x∈gV.aw,x ∉ [U + 1]:=fun x hx=> by
  have HG:=nh.o
  rcases List.mem_append.1 (Da.o x hx) with h | h
  ·have:=(lV.zJ yk.o) x h
   simp;omega
  ·have:=eU.o x (fY.o x h)
   simp;omega
 have cm:=BW.o.bG (jv w4 (U + 1) (H J bA) (M bB bD.length bC) (M bs bu.length bt) (H J bo) (H J bx) (H J bw) (H J bp) (F bz)) hnb;have fy:=hM.o.cn k0.o (by intro x hx;simp at hx;subst hx;exact .inr (by rw [nh.o];omega));have aD:=C aY;have jq:=C cm;have ae4:=C fy;have iP:=C va;clear aY cm fy va hnb z0 z1 z2 z3 z4 z5 b9 cc cj;go_wp2;refine rt aD.o ?_;refine ⟨gV,by rw [dW.o];rfl,by rw [mq.o];exact tQ.o.symm,jq.o,ae4.o,iP.o⟩
mutual
def fA:Tree→Bool
 | .node op _ kids mn _ _ _ _=>
  if op=0∨op=6∨op=7∨op=8∨op=11 then true
  else if op=2 then qP kids
  else if op=4∧mn=0 then true
  else if op=4∨op=3∨op=10∨op=5∨op=9 then xg kids
  else false
def qP:List Tree→Bool
 | []=> true
 | k::ks=> fA k && qP ks
def xg:List Tree→Bool
 | []=> false
 | k::ks=> fA k || xg ks
end
theorem al0 (m:MRe):∀ (b o c:Nat) (w:World),fb w b o m→m.aK w→w.cell? ⟨c,0,none⟩=some (.func (Fn.func 71) #[] #[.pointer (some ⟨c,0,none⟩)])→
  Calls Tryz.prog 71 #[.pointer (some ⟨b,o,none⟩),.pointer (some ⟨c,0,none⟩)] w fun e w'=> e=.returned (F (fA m.ab))∧I [] w w':=by
 induction m using MRe.nq with
 | h op sa sc set ka kc kids mn mx mode n neg ih=>
  intro b o c w h1 aj hc;have a0:=h1.node.ar;have a2:=h1.node.c2;have a3:=h1.node.an;have hB:=aj.ch.le;have DD:=aj.ch.cap;unfold maxLen at DD;have iL:=C aj.kids;have ff:=C ih;have hT:fA (MRe.node op sa sc set ka kc kids mn mx mode n neg).ab=fA (.node op set (MRe.al kids) mn mx mode n neg):=rfl;rw [hT];clear ih h1 aj hT
  by_cases eY:op=0∨op=6∨op=7∨op=8∨op=11
  ·have aY:fA (.node op set (MRe.al kids) mn mx mode n neg)=true:=by rw [fA,if_pos eY]
   rw [aY]
   rcases eY with rfl | rfl | rfl | rfl | rfl
   all_goals
    go_enter Tryz.func71,Tryz.ntmps71
    go_wp2;go_ret;exact ⟨rfl,I.refl _ _⟩
  ·by_cases gA:op=2
   ·have aY:fA (.node op set (MRe.al kids) mn mx mode n neg)=qP (MRe.al kids):=by rw [fA,if_neg eY,if_pos gA]
    rw [aY];subst gA;clear eY aY;go_enter Tryz.func71,Tryz.ntmps71
    go_wp2
    go_loopw [23] (fun i wr=> ∃ k:Nat,k≤kids.length∧i=H J k∧qP ((MRe.al kids).drop k)=qP (MRe.al kids)∧I [] w wr) (fun i _=> kids.length - (intOf i).toNat)
    case atStart=> exact ⟨0,Nat.zero_le _,rfl,rfl,I.refl _ _⟩
    case round=>
     obtain ⟨k,hk,rfl,hl,ck⟩:=hrel;have BL:=C hl;have b6:=C ck
     by_cases aQ:k < kids.length
     ·obtain ⟨iw,off,rfl,ad,hx⟩:=(iL.o.ah ck).ch.dy (by omega);have dI:=ck.c a2;have fo:=ck.c hc;have km:=(iL.o.ah ck).all kids[k] (List.getElem_mem aQ);have iU:=C (fun W (h:I [] wr W)=> ff.o kids[k] (List.getElem_mem aQ) iw (off + k * 8) c W ((hx k aQ).ah h) (km.ah h) (h.c fo));have dB:qP (MRe.al kids)=(fA kids[k].ab && qP ((MRe.al kids).drop (k + 1))):=by rw [←hl,wt kids k aQ,qP]
      obtain ⟨ae,hq⟩:∃ ae,ae=fA kids[k].ab:=⟨_,rfl⟩;rw [←hq] at dB iU;have gi:=C dB;clear hq dB km hx hl ck ff;go_wp2
      go_region_held3 (fun w'=> w'.cell? ⟨c,0,none⟩=some (.func (Fn.func 71) #[] #[.pointer (some ⟨c,0,none⟩)])∧w'.cell? ⟨b,o + 2,none⟩=some (M (some ⟨iw,off,none⟩) kids.length kc))
       (first | exact ⟨fo,dI⟩ | exact ⟨er.o.c fo,er.o.c dI⟩)
       (first
        | (go_at_call 71;refine Calls.mono (iU.o _ ((I.refl [] wr).drew)) ?_;rintro e w3 ⟨rfl,aP⟩;have er:=C (((I.refl [] wr).drew).trans aP);clear aP))
      have iX:=C (b6.o.trans er.o);clear dI fo er iU
      cases ae with
      | true=>
       have rZ:=C (gi.o.trans (Bool.true_and _));clear gi;go_wp2;go_roundw
       case rel=> exact ⟨k + 1,by omega,by go_num,rZ.o.symm,iX.o⟩
       case measure=> simp [intOf];omega
      | false=>
       have rZ:=C (gi.o.trans (Bool.false_and _));clear gi;go_wp2;go_ret;exact ⟨by rw [rZ.o];rfl,iX.o⟩
     ·obtain rfl:k=kids.length:=by omega
      have h0:qP (MRe.al kids)=true:=by rw [←hl,List.drop_of_length_le (by rw [MRe.ee];omega)];rfl
      have BH:=C h0;clear hl ck h0;go_wp2;go_ret;exact ⟨by rw [BH.o];rfl,b6.o⟩
   ·by_cases lB:op=4∧mn=0
    ·have aY:fA (.node op set (MRe.al kids) mn mx mode n neg)=true:=by rw [fA,if_neg eY,if_neg gA,if_pos lB]
     rw [aY];obtain ⟨rfl,rfl⟩:=lB;go_enter Tryz.func71,Tryz.ntmps71
     go_wp2;go_ret;exact ⟨rfl,I.refl _ _⟩
    ·by_cases xH:op=4∨op=3∨op=10∨op=5∨op=9
     ·have aY:fA (.node op set (MRe.al kids) mn mx mode n neg)=xg (MRe.al kids):=by rw [fA,if_neg eY,if_neg gA,if_neg lB,if_pos xH]
      rw [aY];have Bp:op=4→¬ mn=0:=fun h oW=> lB ⟨h,oW⟩;clear eY aY gA lB
      rcases xH with rfl | rfl | rfl | rfl | rfl
      all_goals
       first | (have m7:(mn==0)=false:=by simpa using Bp rfl) | skip
       clear Bp;go_enter Tryz.func71,Tryz.ntmps71
       go_wp2
       go_loopw [53] (fun i wr=> ∃ k:Nat,k≤kids.length∧i=H J k∧xg ((MRe.al kids).drop k)=xg (MRe.al kids)∧I [] w wr) (fun i _=> kids.length - (intOf i).toNat)
       case atStart=> exact ⟨0,Nat.zero_le _,rfl,rfl,I.refl _ _⟩
       case round=>
        obtain ⟨k,hk,rfl,hl,ck⟩:=hrel;have BL:=C hl;have b6:=C ck
        by_cases aQ:k < kids.length
        ·obtain ⟨iw,off,rfl,ad,hx⟩:=(iL.o.ah ck).ch.dy (by omega);have dI:=ck.c a2;have fo:=ck.c hc;have km:=(iL.o.ah ck).all kids[k] (List.getElem_mem aQ);have iU:=C (fun W (h:I [] wr W)=> ff.o kids[k] (List.getElem_mem aQ) iw (off + k * 8) c W ((hx k aQ).ah h) (km.ah h) (h.c fo));have dB:xg (MRe.al kids)=(fA kids[k].ab || xg ((MRe.al kids).drop (k + 1))):=by rw [←hl,wt kids k aQ,xg]
         obtain ⟨ae,hq⟩:∃ ae,ae=fA kids[k].ab:=⟨_,rfl⟩;rw [←hq] at dB iU;have gi:=C dB;clear hq dB km hx hl ck ff;go_wp2
         go_region_held3 (fun w'=> w'.cell? ⟨c,0,none⟩=some (.func (Fn.func 71) #[] #[.pointer (some ⟨c,0,none⟩)])∧w'.cell? ⟨b,o + 2,none⟩=some (M (some ⟨iw,off,none⟩) kids.length kc))
          (first | exact ⟨fo,dI⟩ | exact ⟨er.o.c fo,er.o.c dI⟩)
          (first
           | (go_at_call 71;refine Calls.mono (iU.o _ ((I.refl [] wr).drew)) ?_;rintro e w3 ⟨rfl,aP⟩;have er:=C (((I.refl [] wr).drew).trans aP);clear aP))
         have iX:=C (b6.o.trans er.o);clear dI fo er iU
         cases ae with
         | false=>
          have rZ:=C (gi.o.trans (Bool.false_or _));clear gi;go_wp2;go_roundw
          case rel=> exact ⟨k + 1,by omega,by go_num,rZ.o.symm,iX.o⟩
          case measure=> simp [intOf];omega
         | true=>
          have rZ:=C (gi.o.trans (Bool.true_or _));clear gi;go_wp2;go_ret;exact ⟨by rw [rZ.o];rfl,iX.o⟩
        ·obtain rfl:k=kids.length:=by omega
         have h0:xg (MRe.al kids)=false:=by rw [←hl,List.drop_of_length_le (by rw [MRe.ee];omega)];rfl
         have BH:=C h0;clear hl ck h0;go_wp2;go_ret;exact ⟨by rw [BH.o];rfl,b6.o⟩
     ·have aY:fA (.node op set (MRe.al kids) mn mx mode n neg)=false:=by rw [fA,if_neg eY,if_neg gA,if_neg lB,if_neg xH]
      rw [aY];simp only [not_or] at eY xH;obtain ⟨n0,fm,jg,o8,acb⟩:=eY;obtain ⟨eQ,cv,OT,cu,bp⟩:=xH;clear aY lB;go_enter Tryz.func71,Tryz.ntmps71
      go_wp2;go_ret;exact ⟨rfl,I.refl _ _⟩
theorem Ej (m:MRe) (w:World) (aj:m.aK w):
  Calls Tryz.prog 35 #[m.val] w fun e w'=> e=.returned (F (fA m.ab))∧I [] w w':=by
 have jd:=C (al0 m);have iL:=C aj;obtain ⟨ju,gL⟩:∃ r,r=m:=⟨_,rfl⟩;obtain ⟨op1,aM,aN,set1,aS,kc1,aq,mn1,aI,mode1,n1,aL⟩:=m;simp only [MRe.val];have m8:∀ (fn:Fn) (first cap:Array Value) (w:World),(Instr.makeFunc fn first cap).run Tryz.prog w=.ok (.func fn first cap) w:=fun _ _ _ _=> rfl;rw [←gL] at jd iL ⊢;have ou:ju.row=[H J op1,M aM set1.length aN,M aS aq.length kc1,H J mn1,H J aI,H J mode1,H J n1,F aL]:=by rw [gL];rfl
 have gN:=C ou;clear gL ou aj;go_enter Tryz.func35,Tryz.ntmps35
 go_wp2_with fail
 refine Calls.mono (jd.o w.heap.size 0 (w.heap.size + 1) _ ?_ ?_ ?_) ?_
 ·exact fb.ah (fb.box gN.o.symm) (I.a1 _ _)
 ·exact iL.o.ah (I.a2 w _ _)
 ·simp
 rintro e w2 ⟨rfl,hk⟩;have b6:=C ((I.a2 w _ _).trans hk);clear hk;go_wp2;go_ret;exact ⟨rfl,b6.o⟩
def xc (p:Tree→Bool) (l:List Tree):Int:=match l.findIdx? p with | none=> -1 | some i=> i
theorem abe {p:Tree→Bool} {l:List Tree} (h:∀ x∈l,p x=false):xc p l= -1:=by
 unfold xc;rw [List.findIdx?_eq_none_iff.2 h]
theorem abf {p:Tree→Bool} {l:List Tree} {k:Nat} (hk:k < l.length) (h:∀ x∈l.take k,p x=false) (hp:p l[k]=true):xc p l=k:=by
 unfold xc
 have:l.findIdx? p=some k:=by
  rw [List.findIdx?_eq_some_iff_getElem];refine ⟨hk,hp,fun j c8=> ?_⟩
  have:=h l[j] (by rw [List.mem_take_iff_getElem];exact ⟨j,by omega,rfl⟩)
  simp [this]
 rw [this]
theorem abd {p:Tree→Bool} {l:List Tree}:xc p l < 0↔∀ x∈l,p x=false:=by
 unfold xc
 cases h:l.findIdx? p with
 | none=> simp only [List.findIdx?_eq_none_iff] at h;exact ⟨fun _=> h,fun _=> by decide⟩
 | some i=>
  refine ⟨fun hh=> by simp only at hh;omega,fun hh=> ?_⟩;rw [List.findIdx?_eq_none_iff.2 hh] at h
  cases h
theorem akZ {p:Tree→Bool} {l:List Tree}:decide (0≤xc p l)=l.any p:=by
 by_cases h:∀ x∈l,p x=false
 ·have h1:=abd.2 h
  have:l.any p=false:=by simpa using h
  rw [this,decide_eq_false_iff_not];omega
 ·have h1:¬ xc p l < 0:=fun hh=> h (abd.1 hh)
  have:l.any p=true:=by
   rw [List.any_eq_true];simp only [Classical.not_forall,Bool.not_eq_false] at h;obtain ⟨x,hx,hp⟩:=h;exact ⟨x,hx,hp⟩
  rw [this,decide_eq_true_iff];omega
theorem kQ (l:List MRe) (k:Nat) (h:k < l.length):(MRe.al l)[k]'(by rw [MRe.ee];exact h)=l[k].ab:=by simp [MRe.kP]
theorem Pu {p:Tree→Bool} {l:List Tree} {k:Nat} (hk:k < l.length) (h:∀ x∈l.take k,p x=false) (hp:p l[k]=false):∀ x∈l.take (k + 1),p x=false:=by
 intro x hx;rw [List.take_succ_eq_append_getElem hk] at hx
 rcases List.mem_append.1 hx with hx | hx
 ·exact h x hx
 ·simp at hx;subst hx;exact hp
def n2 (ai:Nat):Prop:=∀ (args:Array Value) (w:World),(callFunc ai args).run Tryz.prog w=.ok (.enter ai args) w
theorem mf {ai : Nat} {fn : Func} {c : Code} (hf : Tryz.prog.funcs[ai]? = some fn) (hname : (fn.name == "runtime.NumGoroutine") = false) (ad : fn.body = some c) : n2 ai := fun args w => by
 have h1 : fn.name ≠ "runtime.NumGoroutine" := by simpa using hname
 simp [callFunc,hf,h1,ad]
theorem T8 (ai:Nat) (cap:Array Value) (p:Tree→Bool) (ka:Option Addr) (kc:Nat) (kids:List MRe) (w:World) (he:n2 ai) (hk:gT w ka kc kids)
  (hf:∀ k∈kids,∀ W,I [] w W→Calls Tryz.prog ai (#[k.val] ++ cap) W fun e w'=> e=.returned (F (p k.ab))∧I [] W w'):
  Calls Tryz.prog 112 #[M ka kids.length kc,.func (Fn.func ai) #[] cap] w fun e w'=> e=.returned (H J (xc p (MRe.al kids)))∧I [] w w':=by
 have hcap:=hk.ch.cap;have fc:=hk.ch.le;unfold maxLen at hcap;have b6:=C hk;have gj:=C hf;unfold n2 at he;clear hk hf;go_enter Tryz.func112,Tryz.ntmps112
 go_wp2
 go_loopw [8] (fun i wr=> ∃ k:Nat,k≤kids.length∧i=H J k∧(∀ x∈(MRe.al kids).take k,p x=false)∧I [] w wr) (fun i _=> kids.length - (intOf i).toNat)
 case atStart=> exact ⟨0,Nat.zero_le _,rfl,by simp,I.refl _ _⟩
 case round=>
  obtain ⟨k,gC,rfl,fB,ck⟩:=hrel;have eg:=C fB;have cX:=C ck
  by_cases aQ:k < kids.length
  ·obtain ⟨b,off,rfl,ad,hx⟩:=(b6.o.ah ck).ch.dy (by omega);have eD:=hx k aQ;have bI:=C (gj.o kids[k] (List.getElem_mem aQ) wr ck);have i5:k < (MRe.al kids).length:=by rw [MRe.ee];exact aQ
   have qG:=fun h=> abf (p:=p) i5 eg.o h;have hall:=fun h=> Pu (p:=p) i5 eg.o h;rw [kQ kids k aQ] at qG hall;have fx:=C qG;have sz:=C hall
   generalize kids[k]=m at *
   obtain ⟨ae,hq⟩:∃ ae,ae=p m.ab:=⟨_,rfl⟩;rw [←hq] at bI fx sz;obtain ⟨op1,aM,aN,set1,aS,kc1,aq,mn1,aI,mode1,n1,aL⟩:=m;have g:=eD.node;obtain ⟨ar,c1,c2,an,av,ay,ax,az⟩:=id g;simp only [MRe.val] at bI;clear g eD hx fB ck hq qG hall gj
   cases ae with
   | true=>
    go_wp2_with fail
    refine Calls.mono bI.o ?_;rintro e w2 ⟨rfl,hk2⟩;have bQ:=C (cX.o.trans hk2);clear hk2;go_wp2;go_ret;exact ⟨by rw [fx.o (by simp)];rfl,bQ.o⟩
   | false=>
    go_wp2_with fail
    refine Calls.mono bI.o ?_;rintro e w2 ⟨rfl,hk2⟩;have bQ:=C (cX.o.trans hk2);clear hk2;go_wp2;go_roundw
    case rel=> exact ⟨k + 1,by omega,by go_num,sz.o (by simp),bQ.o⟩
    case measure=> simp [intOf];omega
  ·obtain rfl:k=kids.length:=by omega
   have h0:xc p (MRe.al kids)= -1:=abe (by rw [←MRe.ee,List.take_length] at fB;exact fB);have ny:=C h0;clear fB ck h0;go_wp2;go_ret;exact ⟨by rw [ny.o];rfl,cX.o⟩
theorem RK (ai:Nat) (cap:Array Value) (p:Tree→Bool) (ka:Option Addr) (kc:Nat) (kids:List MRe) (w:World) (he:n2 ai) (hk:gT w ka kc kids)
  (hf:∀ k∈kids,∀ W,I [] w W→Calls Tryz.prog ai (#[k.val] ++ cap) W fun e w'=> e=.returned (F (p k.ab))∧I [] W w'):
  Calls Tryz.prog 115 #[M ka kids.length kc,.func (Fn.func ai) #[] cap] w fun e w'=> e=.returned (F ((MRe.al kids).any p))∧I [] w w':=by
 have ff:=C (T8 ai cap p ka kc kids w he hk hf);have b8:=akZ (p:=p) (l:=MRe.al kids);obtain ⟨ae,hq⟩:∃ ae,ae=xc p (MRe.al kids):=⟨_,rfl⟩;rw [←hq] at ff b8;have kR:=C b8;clear hk hf b8 hq he;go_enter Tryz.func115,Tryz.ntmps115
 go_wp2_with fail
 refine Calls.mono ff.o ?_;rintro e w2 ⟨rfl,hk2⟩;have bQ:=C hk2;clear hk2;go_wp2;go_ret;exact ⟨by rw [←kR.o];rfl,bQ.o⟩
mutual
def kN:Tree→Bool
 | .node op _ kids mn mx mode _ _=>
  if op=3 then false
  else if op=2∨op=10∨op=5 then GC kids
  else if op=4 then mode==2 || (mn==mx && wq kids)
  else true
def GC:List Tree→Bool
 | []=> true
 | k::ks=> kN k && GC ks
def wq:List Tree→Bool
 | []=> false
 | k::_=> kN k
end
theorem anU (l:List Tree):(!(l.any fun t=> !kN t))=GC l:=by
 induction l with
 | nil=> rfl
 | cons x xs ih=> simp only [List.any_cons,GC,←ih];cases kN x <;> simp
theorem aiS:n2 143:=mf Tryz.func143 (by kernel_rfl) rfl
def lZ:List (Int × Int)→Prop
 | []=> True
 | [s]=> 0≤s.1∧s.1≤s.2∧s.2≤1114111
 | s::t::r=> 0≤s.1∧s.1≤s.2∧s.2 + 2≤t.1∧lZ (t::r)
structure r5 (op:Int) (set:List (Int × Int)) (nk:Nat) (mn mx mode n:Int) (neg:Bool):Prop where
 mL:0≤op∧op≤11
 hone:op=4∨op=5∨op=7∨op=8∨op=9→nk=1
 vc:op=2∨op=3→2≤nk
 HH:op=10→nk=2
 akb:op=0∨op=1∨op=6∨op=11→nk=0
 Cz:op=4→0≤mn∧mn≤32∧-1≤mx∧mx≠0∧mx≤32∧(0 < mx→mn≤mx)∧0≤mode∧mode≤2
 aai:op≠4→mn=0∧mx=0∧mode=0
 tx:op=1→lZ set∧set.length≤64
 HU:op≠1→set=[]
 aqY:op=5∨op=6∨op=10→1≤n
 aqi:op=11→0≤n∧n≤5
 aag:¬ (op=5∨op=6∨op=10∨op=11)→n=0
 Tq:neg=true→op=7∨op=8
inductive Tree.dE:Tree→Prop
 | mk {op set kids mn mx mode n neg} (h:r5 op set kids.length mn mx mode n neg) (hk:∀ k,k∈kids→Tree.dE k):Tree.dE (.node op set kids mn mx mode n neg)
theorem Tree.dE.node {op set kids mn mx mode n neg} (h:Tree.dE (.node op set kids mn mx mode n neg)):r5 op set kids.length mn mx mode n neg:=by cases h;assumption
theorem Tree.dE.dy {op set kids mn mx mode n neg} (h:Tree.dE (.node op set kids mn mx mode n neg)) {k:Tree} (hk:k∈kids):k.dE:=by cases h with | mk _ h=> exact h k hk
theorem kB {op sa sc set ka kc kids mn mx mode n neg} (h:(MRe.node op sa sc set ka kc kids mn mx mode n neg).ab.dE):r5 op set kids.length mn mx mode n neg:=by
 have:=h.node
 rw [MRe.ee] at this;exact this
theorem mS {op sa sc set ka kc kids mn mx mode n neg} (h:(MRe.node op sa sc set ka kc kids mn mx mode n neg).ab.dE) {k:MRe} (hk:k∈kids):k.ab.dE:=
 h.dy (by rw [MRe.kP];exact List.mem_map_of_mem hk)
theorem anT (m:MRe) (b:Bool) (w:World) (h:∀ W,I [] w W→Calls Tryz.prog 120 #[m.val] W fun e w'=> e=.returned (F b)∧I [] W w'):
  Calls Tryz.prog 143 #[m.val] w fun e w'=> e=.returned (F (!b))∧I [] w w':=by
 have AV:=C h;clear h;obtain ⟨op1,aM,aN,set1,aS,kc1,aq,mn1,aI,mode1,n1,aL⟩:=m;simp only [MRe.val] at AV ⊢;have aah:∀ (x:Bool) (w:World),(Op.unary .not (F x)).run Tryz.prog w=.ok (F (!x)) w:=fun _ _=> rfl;go_enter Tryz.func143,Tryz.ntmps143
 go_wp2_with fail
 refine Calls.mono (AV.o _ (I.a1 w _)) ?_;rintro e w2 ⟨rfl,hk⟩;have b6:=C ((I.a1 w _).trans hk);clear hk;go_wp2;go_ret;exact ⟨rfl,b6.o⟩
theorem adu (m:MRe):∀ (w:World),m.aK w→m.ab.dE→
  Calls Tryz.prog 120 #[m.val] w fun e w'=> e=.returned (F (kN m.ab))∧I [] w w':=by
 induction m using MRe.nq with
 | h op sa sc set ka kc kids mn mx mode n neg ih=>
  intro w aj na;have eC:=kB na;have hT:kN (MRe.node op sa sc set ka kc kids mn mx mode n neg).ab=kN (.node op set (MRe.al kids) mn mx mode n neg):=rfl;rw [hT];have ff:=C (fun k (hk:k∈kids) W (h:I [] w W)=> ih k hk W ((aj.dy hk).ah h) (mS na hk));have b6:=C aj.kids;have vB:=C eC;have hcap:=aj.ch.cap;have fc:=aj.ch.le;unfold maxLen at hcap;clear ih aj na eC hT;simp only [MRe.val]
  by_cases h3:op=3
  ·have aY:kN (.node op set (MRe.al kids) mn mx mode n neg)=false:=by rw [kN,if_pos h3]
   rw [aY];subst h3;clear aY;go_enter Tryz.func120,Tryz.ntmps120
   go_wp2;go_ret;exact ⟨rfl,I.a1 _ _⟩
  ·by_cases h2:op=2∨op=10∨op=5
   ·have aY:kN (.node op set (MRe.al kids) mn mx mode n neg)=!((MRe.al kids).any fun t=> !kN t):=by rw [kN,if_neg h3,if_pos h2,anU]
    rw [aY];have bI:=C (fun W (h:I [] w W)=> RK 143 #[] (fun t=> !kN t) ka kc kids W aiS (b6.o.ah h) fun k hk wO oW=> anT k _ wO fun ic h2=> ff.o k hk ic ((h.trans oW).trans h2));have aah:∀ (x:Bool) (w:World),(Op.unary .not (F x)).run Tryz.prog w=.ok (F (!x)) w:=fun _ _=> rfl;obtain ⟨ae,hq⟩:∃ ae,ae=((MRe.al kids).any fun t=> !kN t):=⟨_,rfl⟩;rw [←hq] at bI ⊢;clear aY hq ff h3
    rcases h2 with rfl | rfl | rfl
    all_goals
     go_enter Tryz.func120,Tryz.ntmps120
     go_wp2_with fail
     refine Calls.mono (bI.o _ (I.a1 w _)) ?_;rintro e w2 ⟨rfl,hk⟩;have b6:=C ((I.a1 w _).trans hk);clear hk;go_wp2;go_ret;exact ⟨rfl,b6.o⟩
   ·by_cases h4:op=4
    ·have jC:kids.length=1:=vB.o.hone (.inl h4);have aY:kN (.node op set (MRe.al kids) mn mx mode n neg)=(mode==2 || (mn==mx && wq (MRe.al kids))):=by rw [kN,if_neg h3,if_neg h2,if_pos h4]
     rw [aY];subst h4
     by_cases hm:mode=2
     ·have zR:(mode==2 || (mn==mx && wq (MRe.al kids)))=true:=by simp [hm]
      rw [zR];clear aY zR h3 h2;go_enter Tryz.func120,Tryz.ntmps120
      go_wp2;go_ret;exact ⟨by simp,I.a1 _ _⟩
     ·by_cases he:mn=mx
      ·obtain ⟨b,off,rfl,ad,hx⟩:=b6.o.ch.dy (by omega);have eD:=hx 0 (by omega);have bI:=C (ff.o kids[0] (List.getElem_mem (by omega)));have zR:(mode==2 || (mn==mx && wq (MRe.al kids)))=kN kids[0].ab:=by
        have h1:(mode==2)=false:=by simpa using hm
        have h2:(mn==mx)=true:=by simpa using he
        rw [h1,h2]
        match kids,jC with
        | [x],_=> rfl
       rw [zR];obtain ⟨ae,hq⟩:∃ ae,ae=kN kids[0].ab:=⟨_,rfl⟩;rw [←hq] at bI ⊢
       generalize kids[0]=dq at *
       obtain ⟨op1,aM,aN,set1,aS,kc1,aq,mn1,aI,mode1,n1,aL⟩:=dq;have g:=eD.node;rw [Nat.zero_mul,Nat.add_zero] at g;obtain ⟨ar,c1,c2,an,av,ay,ax,az⟩:=id g;simp only [MRe.val] at bI;have hln:(kids.length:Int)=1:=by omega
       clear g eD hx aY zR hq ff h3 h2;go_enter Tryz.func120,Tryz.ntmps120
       go_wp2_with fail
       refine Calls.mono (bI.o _ (I.a1 w _)) ?_;rintro e w2 ⟨rfl,hk⟩;have b6:=C ((I.a1 w _).trans hk);clear hk;go_wp2;go_ret;exact ⟨by simp [hm],b6.o⟩
      ·have zR:(mode==2 || (mn==mx && wq (MRe.al kids)))=false:=by simp [hm,he]
       rw [zR];clear aY zR h3 h2;go_enter Tryz.func120,Tryz.ntmps120
       go_wp2;go_ret;exact ⟨by simp [hm],I.a1 _ _⟩
    ·have aY:kN (.node op set (MRe.al kids) mn mx mode n neg)=true:=by rw [kN,if_neg h3,if_neg h2,if_neg h4]
     rw [aY];simp only [not_or] at h2;obtain ⟨bn,OT,cu⟩:=h2;clear aY;go_enter Tryz.func120,Tryz.ntmps120
     go_wp2;go_ret;exact ⟨rfl,I.a1 _ _⟩
def mz (p:Tree→Tree→Bool):List Tree→Option Nat
 | x::y::r=> if p x y=true then some 0 else (mz p (y::r)).map (· + 1)
 | _=> none
theorem Uq (p:Tree→Tree→Bool):∀ (l:List Tree) (k:Nat),(∀ i (h:i + 1 < l.length),i < k→p l[i] l[i + 1]=false)→mz p l=(mz p (l.drop k)).map (· + k)
 | l,0,_=> by simp
 | [],k + 1,_=> by simp [mz]
 | [x],k + 1,_=> by simp [mz]
 | x::y::r,k + 1,h=> by
  have h0:p x y=false:=h 0 (by simp) (by omega);have aO:=Uq p (y::r) k (fun i hi hk=> h (i + 1) (by simpa using hi) (by omega));rw [mz,if_neg (by simp [h0]),aO,List.drop_succ_cons]
  cases mz p ((y::r).drop k) with
  | none=> rfl
  | some i=> simp;omega
theorem acf {p:Tree→Tree→Bool} {l:List Tree} {k:Nat} (hk:k + 1 < l.length) (h:∀ i (h:i + 1 < l.length),i < k→p l[i] l[i + 1]=false) (hp:p l[k] l[k + 1]=true):mz p l=some k:=by
 rw [Uq p l k h,List.drop_eq_getElem_cons (by omega),List.drop_eq_getElem_cons (by omega),mz,if_pos hp]
 simp
theorem ace {p:Tree→Tree→Bool} {l:List Tree} (h:∀ i (h:i + 1 < l.length),p l[i] l[i + 1]=false):mz p l=none:=by
 rw [Uq p l l.length (fun i hi _=> h i hi),List.drop_length];rfl
theorem Ur {p:Tree→Tree→Bool}:∀ {l:List Tree} {k:Nat},mz p l=some k→k + 1 < l.length
 | [],k,h=> by simp [mz] at h
 | [x],k,h=> by simp [mz] at h
 | x::y::r,k,h=> by
  rw [mz] at h
  split at h
  ·cases h;simp
  ·cases hn:mz p (y::r) with
   | none=> rw [hn] at h;simp at h
   | some i=>
    rw [hn] at h;simp at h
    have:=Ur hn
    simp at this ⊢;omega
def E1 (lX:World→Prop) (Fin:Nat→World→Prop) (o:Option Nat) (e:Ending) (w':World):Prop:=
 match o with
 | none=> e=.returned (H J (-1))∧lX w'
 | some i=> e=.returned (H J i)∧Fin i w'
theorem E1.dL {lX:World→Prop} {Fin:Nat→World→Prop} {o:Option Nat} {e:Ending} {w':World} (h:o=none) (he:e=.returned (H J (-1))) (hi:lX w'):E1 lX Fin o e w':=by subst h;exact ⟨he,hi⟩
theorem E1.iI {lX:World→Prop} {Fin:Nat→World→Prop} {o:Option Nat} {i:Nat} {e:Ending} {w':World} (h:o=some i) (he:e=.returned (H J i)) (hi:Fin i w'):E1 lX Fin o e w':=by subst h;exact ⟨he,hi⟩
def Rc (ai:Nat) (cap:Array Value) (p:Tree→Tree→Bool) (kids:List MRe) (lX:World→Prop) (Fin:Nat→World→Prop):Prop:=
 ∀ i (h:i + 1 < kids.length),∀ W,lX W→Calls Tryz.prog ai (#[kids[i].val,kids[i + 1].val] ++ cap) W fun e w'=> e=.returned (F (p kids[i].ab kids[i + 1].ab))∧(p kids[i].ab kids[i + 1].ab=false→lX w')∧(p kids[i].ab kids[i + 1].ab=true→Fin i w')
theorem alR (ai:Nat) (cap:Array Value) (p:Tree→Tree→Bool) (ka:Option Addr) (kc:Nat) (kids:List MRe) (w:World) (lX:World→Prop) (Fin:Nat→World→Prop) (he:n2 ai)
  (hi:lX w) (hin:∀ W,lX W→hH W ka kc kids) (hfn:∀ i W,Fin i W→hH W ka kc kids) (z6:∀ W,lX W→lX W.drew) (hf:Rc ai cap p kids lX Fin):
  Calls Tryz.prog 142 #[M ka kids.length kc,.func (Fn.func ai) #[] cap] w (E1 lX Fin (mz p (MRe.al kids))):=by
 have hcap:=(hin w hi).cap;have fc:=(hin w hi).le;unfold maxLen at hcap;have ff:=C hi;have k1:=C hin;have aeK:=C z6;have aeR:=C hfn;have gj:=C hf;unfold n2 at he;clear hi hin z6 hf hfn;go_enter Tryz.func142,Tryz.ntmps142
 go_wp2
 go_loopw [5] (fun i wr=> ∃ k:Nat,i=H J ((k + 1:Nat):Int)∧(k + 1≤kids.length∨k=0)∧(∀ i (h:i + 1 < (MRe.al kids).length),i < k→p (MRe.al kids)[i] (MRe.al kids)[i + 1]=false)∧lX wr) (fun i _=> kids.length - (intOf i).toNat)
 case atStart=> exact ⟨0,rfl,.inr rfl,by intro i _ h;omega,ff.o⟩
 case round=>
  obtain ⟨k,rfl,mK,fB,qC⟩:=hrel;have eg:=C fB;have P4:=C qC
  by_cases aQ:k + 1 < kids.length
  ·obtain ⟨b,off,rfl,ad,hx⟩:=(k1.o _ qC).dy (by omega);have eD:=hx k (by omega);have mi:=hx (k + 1) aQ;have bI:=C (gj.o k aQ _ (aeK.o _ qC));have i5:k + 1 < (MRe.al kids).length:=by rw [MRe.ee];exact aQ
   have qG:=fun h=> acf (p:=p) i5 eg.o h;have hall:p (MRe.al kids)[k] (MRe.al kids)[k + 1]=false→∀ i (h:i + 1 < (MRe.al kids).length),i < k + 1→p (MRe.al kids)[i] (MRe.al kids)[i + 1]=false:=fun h i hi hk=> by
    rcases Nat.lt_or_eq_of_le (Nat.le_of_lt_succ hk) with h1 | h1
    ·exact eg.o i hi h1
    ·subst h1;exact h
   rw [kQ kids k (by omega),kQ kids (k + 1) aQ] at qG hall;have fx:=C qG;have sz:=C hall;have Y2:∀ W,hH W (some ⟨b,off,none⟩) kc kids→fb W b (off + k * 8) kids[k]∧fb W b (off + (k + 1) * 8) kids[k + 1]:=fun W l5=> by
    obtain ⟨iw,off',h1,_,h2⟩:=l5.dy (by omega)
    cases h1
    exact ⟨h2 k (by omega),h2 (k + 1) aQ⟩
   have Vu:=C Y2;clear Y2
   generalize kids[k]=bW at *
   generalize kids[k + 1]=m1 at *
   obtain ⟨ae,hq⟩:∃ ae,ae=p bW.ab m1.ab:=⟨_,rfl⟩;rw [←hq] at bI fx sz;obtain ⟨op1,aM,aN,set1,aS,kc1,aq,mn1,aI,mode1,n1,aL⟩:=bW;obtain ⟨op2,cg,cf,bj,ct,kc2,a8,mn2,bY,bX,bn,bZ⟩:=m1;have g:=eD.node;obtain ⟨ar,c1,c2,an,av,ay,ax,az⟩:=id g;have g:=mi.node;obtain ⟨bK,d1,d2,bL,bO,bT,bU,bV⟩:=id g;simp only [MRe.val] at bI;have hk1:((k + 1:Nat):Int)=(k:Int) + 1:=by omega
   rw [hk1];have HS:(k:Int) + 1 < (kids.length:Int):=by omega
   have qA:(0:Int)≤(k:Int):=by omega
   have gg:(k:Int) < (kids.length:Int):=by omega
   have iR:(0:Int)≤(k:Int) + 1:=by omega
   have xJ:((k:Int) + 1).toNat=k + 1:=by omega
   have ajE:(k:Int) + 1 - 1=(k:Int):=by omega
   have TR:IntKind.i64.wrap (k:Int)=(k:Int):=IntWalk.i64_in _ (by omega);have CC:IntKind.i64.wrap ((k:Int) + 1)=(k:Int) + 1:=IntWalk.i64_in _ (by omega);have mN:IntKind.i64.wrap ((k:Int) + 1 - 1)=(k:Int):=by rw [IntWalk.i64_in _ (by omega)];omega
   clear g eD mi hx fB qC hq qG hall gj hk1 ff;go_wp2
   go_region_held3 (fun w'=> (w'.cell? ⟨b,off + k * 8,none⟩=some (H J op1)∧w'.cell? ⟨b,off + k * 8 + 1,none⟩=some (M aM set1.length aN)∧w'.cell? ⟨b,off + k * 8 + 2,none⟩=some (M aS aq.length kc1)∧w'.cell? ⟨b,off + k * 8 + 3,none⟩=some (H J mn1)∧w'.cell? ⟨b,off + k * 8 + 4,none⟩=some (H J aI)∧w'.cell? ⟨b,off + k * 8 + 5,none⟩=some (H J mode1)∧w'.cell? ⟨b,off + k * 8 + 6,none⟩=some (H J n1)∧w'.cell? ⟨b,off + k * 8 + 7,none⟩=some (F aL))∧(w'.cell? ⟨b,off + (k + 1) * 8,none⟩=some (H J op2)∧w'.cell? ⟨b,off + (k + 1) * 8 + 1,none⟩=some (M cg bj.length cf)∧w'.cell? ⟨b,off + (k + 1) * 8 + 2,none⟩=some (M ct a8.length kc2)∧w'.cell? ⟨b,off + (k + 1) * 8 + 3,none⟩=some (H J mn2)∧w'.cell? ⟨b,off + (k + 1) * 8 + 4,none⟩=some (H J bY)∧w'.cell? ⟨b,off + (k + 1) * 8 + 5,none⟩=some (H J bX)∧w'.cell? ⟨b,off + (k + 1) * 8 + 6,none⟩=some (H J bn)∧w'.cell? ⟨b,off + (k + 1) * 8 + 7,none⟩=some (F bZ)))
    (with_reducible first | exact ⟨⟨((I.refl [] wr).drew).c ar,((I.refl [] wr).drew).c c1,((I.refl [] wr).drew).c c2,((I.refl [] wr).drew).c an,((I.refl [] wr).drew).c av,((I.refl [] wr).drew).c ay,((I.refl [] wr).drew).c ax,((I.refl [] wr).drew).c az⟩,⟨((I.refl [] wr).drew).c bK,((I.refl [] wr).drew).c d1,((I.refl [] wr).drew).c d2,((I.refl [] wr).drew).c bL,((I.refl [] wr).drew).c bO,((I.refl [] wr).drew).c bT,((I.refl [] wr).drew).c bU,((I.refl [] wr).drew).c bV⟩⟩ | exact ⟨⟨er.o.ar,er.o.c1,er.o.c2,er.o.an,er.o.av,er.o.ay,er.o.ax,er.o.az⟩,⟨jD.o.ar,jD.o.c1,jD.o.c2,jD.o.an,jD.o.av,jD.o.ay,jD.o.ax,jD.o.az⟩⟩ | fail)
    (first | (refine Calls.mono bI.o ?_;rintro e w2 ⟨rfl,h0,h1⟩;have ny:=C h0;have eo:=C h1;have hn:hH w2 (some ⟨b,off,none⟩) kc kids:=(by cases ae with | true=> exact aeR.o _ _ (h1 rfl) | false=> exact k1.o _ (h0 rfl));have er:=C (Vu.o w2 hn).1.node;have jD:=C (Vu.o w2 hn).2.node;clear h0 h1 hn))
   cases ae with
   | true=>
    have tK:=C (eo.o rfl);clear ny eo er jD ar c1 c2 an av ay ax az bK d1 d2 bL bO bT bU bV;go_wp2;go_ret;exact E1.iI (fx.o (by simp)) rfl tK.o
   | false=>
    have afm:=C (ny.o rfl);clear ny eo er jD ar c1 c2 an av ay ax az bK d1 d2 bL bO bT bU bV;go_wp2;go_roundw
    case rel=> exact ⟨k + 1,by go_num,by omega,sz.o (by simp),afm.o⟩
    case measure=> simp [intOf];omega
  ·have FM:mz p (MRe.al kids)=none:=ace fun i hi=> by
    rw [MRe.ee] at hi;exact fB i (by rw [MRe.ee];exact hi) (by omega)
   have hk1:((k + 1:Nat):Int)=(k:Int) + 1:=by omega
   have HS:¬ (k:Int) + 1 < (kids.length:Int):=by omega
   have vB:=C FM;rw [hk1];clear fB qC FM hk1;go_wp2;go_ret;exact E1.dL vB.o rfl P4.o
def B7 (lX:World→Prop) (Fin:Nat→World→Prop) (o:Option Nat) (e:Ending) (w':World):Prop:=
 match o with
 | none=> (∃ x:Int,e=.returned (.tuple #[H J x,F false]))∧lX w'
 | some i=> e=.returned (.tuple #[H J i,F true])∧Fin i w'
theorem B7.dL {lX:World→Prop} {Fin:Nat→World→Prop} {o:Option Nat} {e:Ending} {w':World} (h:o=none) (x:Int) (he:e=.returned (.tuple #[H J x,F false])) (hi:lX w'):B7 lX Fin o e w':=by subst h;exact ⟨⟨x,he⟩,hi⟩
theorem B7.iI {lX:World→Prop} {Fin:Nat→World→Prop} {o:Option Nat} {i:Nat} {e:Ending} {w':World} (h:o=some i) (he:e=.returned (.tuple #[H J i,F true])) (hi:Fin i w'):B7 lX Fin o e w':=by subst h;exact ⟨he,hi⟩
def qa (p:Tree→Tree→Bool) (op:Int) (t:Tree):Option Nat:=if t.op=op then mz p t.kids else none
end Go.Proofs.YtjnlkjlbejelgaaGreat
