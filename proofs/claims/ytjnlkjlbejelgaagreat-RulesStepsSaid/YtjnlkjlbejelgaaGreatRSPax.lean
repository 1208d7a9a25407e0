/- Part of the proof. No condition: every lemma says its own. -/
import Derived.Test.YtjnlkjlbejelgaaGreatRSPaw
namespace Go.Proofs.YtjnlkjlbejelgaaGreat
open Go.RowKit
open Go.Value renaming int→H,slice→M,bool→F
open Go.IntKind renaming i64→J
open Go.RowKit Go.Sort Go.BigFrame
set_option maxRecDepth 100000
set_option maxHeartbeats 16000000
theorem amt (m:MRe) (w:World) (aj:m.aK w) (aJ:m.ab.dE) (ad:m.ab.bm≤100000):
  Calls Tryz.prog 88 #[m.val] w (dc w m.aw (By m.ab)):=by
 obtain ⟨R,aC⟩:∃ R,R=By m.ab:=⟨_,rfl⟩;rw [←aC];have eg:=C (O5 129 y9 2 m w aj aJ aiR (fun a b ak b8 ad sM sN=> ams a b ak b8 ad sN));have eX:=C (fun (W:World) (i:Nat) (cS:Option Addr) (l:MRe)=> GH m i (i + 2) cS 1 [l] W);have eU:=C aj.fi;unfold By at aC;obtain ⟨j0,hpo⟩:∃ j0,j0=qa y9 2 m.ab:=⟨_,rfl⟩;rw [←hpo] at eg aC;obtain ⟨op,sa,sc,set,ka,kc,kids,mn,mx,mode,n,neg⟩:=m;have fY:=C (lG ad).1;obtain ⟨U,aE,aB,c7,bI,ba,cZ,aH⟩:=rS w op sa sc set ka kc kids mn mx mode n neg;have hC:=C cZ;have ec:=C aj;simp only [MRe.val];clear cZ ad aj aJ
 cases j0 with
 | none=>
  have aD:=C (show R=none from aC);clear aC hpo;obtain ⟨ar,c1,c2,an,av,ay,ax,az⟩:=bI.o.ez;go_enter Tryz.func88,Tryz.ntmps88
  go_upto_region 1 with fail
  rw [←c7.o,←aB.o];go_wp2_with fail
  refine Calls.mono (eg.o _ aH.o) ?_;intro e w2 jX;obtain ⟨⟨x,rfl⟩,hk2⟩:=jX;have aU:=C hk2;clear hk2;obtain ⟨z0,z1,z2,z3,z4,z5,b9,cc,cj,cw,bQ⟩:=gR aB.o aH.o aU.o ba.o;go_wp2;refine rt cw.o ?_;exact dc.dL aD.o rfl bQ.o
 | some i=>
  obtain ⟨_,aQ,_⟩:=y8 hpo.symm;have aQ:i + 1 < (MRe.al kids).length:=aQ;rw [MRe.ee] at aQ;have hg:(MRe.al kids).getD i .nil=(kids[i]'(by omega)).ab:=by rw [List.getD_eq_getElem?_getD,List.getElem?_eq_getElem (by rw [MRe.ee];omega),Option.getD_some,kQ]
  obtain ⟨b,off,rfl,lk,v8⟩:=ec.o.ch.dy (by omega);have sV:=v8 i (by omega);have cm:=ec.o.dy (List.getElem_mem (n:=i) (by omega));have hbl:=mF (op:=op) (sa:=sa) (sc:=sc) (set:=set) (ka:=some ⟨b,off,none⟩) (kc:=kc) (mn:=mn) (mx:=mx) (mode:=mode) (n:=n) (neg:=neg) (List.getElem_mem (l:=kids) (n:=i) (by omega));obtain ⟨dq,je⟩:∃ dq,dq=(kids[i]'(by omega)):=⟨_,rfl⟩;rw [←je] at hg sV cm hbl;have mq:=C (fun (q0:MRe) (h:q0.ab=hF op (MRe.al kids) i (i + 2) [.node 4 [] [dq.ab] 1 (-1) 0 0 false])=> show R=some q0.ab by rw [aC,h,←hg];rfl);have kS:=C hbl;have jq:=C cm;obtain ⟨k5,hD⟩:∃ k5,k5=dq:=⟨_,rfl⟩;rw [←hD] at mq kS jq;have uH:=C hD;obtain ⟨op1,aM,aN,set1,aS,kc1,aq,mn1,aI,mode1,n1,aL⟩:=dq;have g:=sV.node;obtain ⟨bg,aV,a6,bl,bq,bE,bF,bH⟩:=id g;obtain ⟨bK,d1,d2,bL,bO,bT,bU,bV⟩:=aH.o.au bg aV a6 bl bq bE bF bH;have mN:IntKind.i64.wrap ((i:Int) + 2)=(i:Int) + 2:=IntWalk.i64_in _ (by have:=fY.o;omega);have kn:(0:Int)≤(i:Int):=by omega
  have K7:(i:Int) < (kids.length:Int):=by omega
  have Zt:i < kids.length:=by omega
  clear aC hpo hg v8 sV cm hbl je hD g bg aV a6 bl bq bE bF bH;obtain ⟨ar,c1,c2,an,av,ay,ax,az⟩:=bI.o.ez;go_enter Tryz.func88,Tryz.ntmps88
  go_upto_region 1 with fail
  rw [←c7.o,←aB.o];go_wp2_with fail
  refine Calls.mono (eg.o _ aH.o) ?_;intro e w2 jX;obtain ⟨rfl,hk2⟩:=jX;have aU:=C hk2;obtain ⟨u0,u1,u2,u3,u4,u5,u6,u7⟩:=hk2.au ar c1 c2 an av ay ax az;obtain ⟨v0,v1,v2,v3,v4,v5,v6,v7⟩:=hk2.au bK d1 d2 bL bO bT bU bV;clear hk2 ar c1 c2 an av ay ax az bK d1 d2 bL bO bT bU bV;obtain ⟨iv,xH⟩:∃ iv,iv=w2.drew:=⟨_,rfl⟩;have yx:=C (show I [] w2 iv by rw [xH];exact (I.refl [] w2).drew);go_wp2;refine rg (S:=fun w'=> (iK w' U op sa set sc (some ⟨b,off,none⟩) kids kc mn mx mode n neg)∧(w'.cell? ⟨b,off + i * 8,none⟩=some (H J op1)∧w'.cell? ⟨b,off + i * 8 + 1,none⟩=some (M aM set1.length aN)∧w'.cell? ⟨b,off + i * 8 + 2,none⟩=some (M aS aq.length kc1)∧w'.cell? ⟨b,off + i * 8 + 3,none⟩=some (H J mn1)∧w'.cell? ⟨b,off + i * 8 + 4,none⟩=some (H J aI)∧w'.cell? ⟨b,off + i * 8 + 5,none⟩=some (H J mode1)∧w'.cell? ⟨b,off + i * 8 + 6,none⟩=some (H J n1)∧w'.cell? ⟨b,off + i * 8 + 7,none⟩=some (F aL))) (fun _ k=> ⟨(k.au u0 u1 u2 u3 u4 u5 u6 u7),(k.au v0 v1 v2 v3 v4 v5 v6 v7)⟩) fun bM aF=> ?_;rw [←xH] at aF ⊢;clear xH;refine ag 0 ?_;refine ag 1 ?_;refine ag 2 ?_;refine ag 3 ?_;refine ag 4 ?_;refine ag 5 ?_;refine ag 6 ?_;refine ag 7 ?_;refine ag 8 ?_;refine bh 9 fun ai af=> ?_;go_simp;have er:=C (yx.o.trans (I.a1 iv (bf op1 aM set1 aN aS aq kc1 mn1 aI mode1 n1 aL)));refine af.out _ _ (bM.o _ er.o) fun aF=> ?_;clear af ai;try go_frame
  refine ag 10 ?_;refine bh 11 fun ai af=> ?_;go_simp;have jD:=C (yx.o.trans (I.a2 iv (bf op1 aM set1 aN aS aq kc1 mn1 aI mode1 n1 aL) (.cells #[H J 4,M none 0 0,M (some ⟨iv.heap.size,0,none⟩) 1 1,H J 1,H J (-1),H J 0,H J 0,F false] 26)));refine af.out _ _ (bM.o _ jD.o) fun aF=> ?_;clear af ai;try go_frame
  have lP:=acq (W:=iv) (op:=4) (mn:=1) (mx:= -1) (T:=26) (T':=26) (jq.o.ah (aH.o.trans (aU.o.trans yx.o))) #[H J op1,M aM set1.length aN,M aS aq.length kc1,H J mn1,H J aI,H J mode1,H J n1,F aL] (by rw [uH.o];rfl);have hs:=eX.o _ i (some ⟨iv.heap.size + 1,0,none⟩) (.node 4 none 0 [] (some ⟨iv.heap.size,0,none⟩) 1 [k5] 1 (-1) 0 0 false) (ec.o.ah (aH.o.trans (aU.o.trans jD.o))) lP (by omega) (by show i + 2≤kids.length;omega) (by show 0 < kids.length;omega) (by show kids.length + 1≤1000000;have:=fY.o;omega);rw [show ((i + 2:Nat):Int)=(i:Int) + 2 by omega,List.length_singleton] at hs;have cW:=C hs;have oq:=C (aU.o.trans jD.o);have vs:=C (show ∀ x∈MRe.dN [.node 4 none 0 [] (some ⟨iv.heap.size,0,none⟩) 1 [k5] 1 (-1) 0 0 false],x∈(MRe.node op sa sc set (some ⟨b,off,none⟩) kc kids mn mx mode n neg).aw∨U + 2≤x from fun x hx=> by
   simp only [MRe.dN,MRe.aw,List.append_nil,List.mem_append] at hx
   rcases hx with h | h | h
   ·simp [df] at h
   ·simp [df] at h;subst h;exact .inr (Nat.le_trans hC.o (Nat.le_trans aU.o.size yx.o.size))
   ·exact .inl (kS.o x h))
  clear lP hs;refine bh 12 fun ai af=> ?_;go_simp
  go_at_call 114
  refine Calls.mono cW.o ?_;rintro e fN ⟨ae,rfl,a7,aT,cU,hqf⟩;have pM:=C cU;have gu:=C (oq.o.trans cU);have dK:=C a7;have dA:=C aT;have et:=C hqf;obtain ⟨q0,bN⟩:∃ q0,q0=ae:=⟨_,rfl⟩;rw [←bN] at dK dA et;have dt:=C bN;clear a7 aT cU hqf bN;obtain ⟨bA,bB,bC,bD,bs,bt,bu,bo,bx,bw,bp,bz⟩:=ae;simp only [MRe.val];have C2:=C (jD.o.trans pM.o);obtain ⟨z0,z1,z2,z3,z4,z5,b9,cc,cj⟩:=ew (gu.o.h ba.o);refine af.out _ _ (bM.o _ C2.o) fun aF=> ?_;clear af ai;try go_frame
  refine ag 13 ?_;refine ag 14 ?_;refine bh 15 fun ai af=> ?_;go_simp;have yF:b < U:=by rw [aB.o];exact lk
  have iW:=C ((C2.o.mono (S':=[U + 1]) (by simp)).trans (jv fN (U + 1) (H J bA) (M bB bD.length bC) (M bs bu.length bt) (H J bo) (H J bx) (H J bw) (H J bp) (F bz)));refine af.out _ _ (⟨⟨iW.o.cell u0 (by simp <;> omega),iW.o.cell u1 (by simp <;> omega),iW.o.cell u2 (by simp <;> omega),iW.o.cell u3 (by simp <;> omega),iW.o.cell u4 (by simp <;> omega),iW.o.cell u5 (by simp <;> omega),iW.o.cell u6 (by simp <;> omega),iW.o.cell u7 (by simp <;> omega)⟩,⟨iW.o.cell v0 (by simp <;> omega),iW.o.cell v1 (by simp <;> omega),iW.o.cell v2 (by simp <;> omega),iW.o.cell v3 (by simp <;> omega),iW.o.cell v4 (by simp <;> omega),iW.o.cell v5 (by simp <;> omega),iW.o.cell v6 (by simp <;> omega),iW.o.cell v7 (by simp <;> omega)⟩⟩) (fun aF=> ?_);clear af ai;try go_frame
  refine ag 16 ?_;refine dR ?_;clear z0 z1 z2 z3 z4 z5 b9 cc cj u0 u1 u2 u3 u4 u5 u6 u7 v0 v1 v2 v3 v4 v5 v6 v7 aF;go_wp2;have hfr:=vp et.o vs.o (Nat.le_trans hC.o oq.o.size);rw [dt.o] at hfr;obtain ⟨aY,cm,fy,gB⟩:=nd aB.o aH.o gu.o ba.o (by rw [←dt.o];exact dA.o) hfr eU.o;refine rt aY ?_;exact dc.iI (.node bA bB bC bD bs bt bu bo bx bw bp bz) (by rw [←dt.o];exact mq.o q0 dK.o) rfl cm fy gB
def lb (w:World) (src:List Nat) (o:Option (List Tree)) (e:Ending) (w':World):Prop:=
 match o with
 | none=> e=.returned (.tuple #[M none 0 0,F false])∧I [] w w'
 | some l=> ∃ (cS:Option Addr) (k6:List MRe),e=.returned (.tuple #[M cS k6.length 1,F true])∧k6.length=1∧MRe.al k6=l∧gT w' cS 1 k6∧I [] w w'∧du w.heap.size src (MRe.dN k6)
theorem lb.dL {w:World} {src:List Nat} {o:Option (List Tree)} {e:Ending} {w':World} (h:o=none) (he:e=.returned (.tuple #[M none 0 0,F false])) (hk:I [] w w'):lb w src o e w':=by subst h;exact ⟨he,hk⟩
theorem lb.iI {w:World} {src:List Nat} {o:Option (List Tree)} {e:Ending} {w':World} {t:Tree} (cS:Option Addr) (x:MRe) (h:o=some [t]) (ht:x.ab=t) (he:e=.returned (.tuple #[M cS 1 1,F true])) (hx:gT w' cS 1 [x]) (hk:I [] w w') (ad:du w.heap.size src x.aw):lb w src o e w':=by
 subst h;subst ht;exact ⟨cS,[x],he,rfl,rfl,hx,hk,by simpa [MRe.dN] using ad⟩
def vh (lo hi:Int):Tree:=.node 1 [(lo,hi)] [] 0 0 0 0 false
def nW (t:Tree):Tree:=.node 4 [] [t] 0 (-1) 0 0 false
def q9 (a b:Tree):Tree:=.node 2 [] [a,b] 0 0 0 0 false
def Re (w:World) (t:Tree) (e:Ending) (w':World):Prop:=∃ m:MRe,e=.returned m.val∧m.ab=t∧m.aK w'∧I [] w w'
theorem OL (lo hi:Int) (w:World):Calls Tryz.prog 39 #[H J lo,H J hi] w (Re w (vh lo hi)):=by
 go_enter Tryz.func39,Tryz.ntmps39
 go_wp2;refine bodyPost_ret (results_cell_row rfl _ _ w.heap.size 26 #[H J 1,M (some ⟨w.heap.size + 1,0,none⟩) 1 1,M none 0 0,H J 0,H J 0,H J 0,H J 0,F false] (0,0) _ rfl ((I.a1 _ _).heap (heap_alloc_new w _) (by simp)) Tryz.underlying26 rfl mB) rfl ?_;refine ⟨.node 1 (some ⟨w.heap.size + 1,0,none⟩) 1 [(lo,hi)] none 0 [] 0 0 0 0 false,rfl,rfl,.hR (eK.kq (set:=[(lo,hi)]) (heap_alloc2_new w _ _) rfl (by simp [maxLen])) (gT.nil _),I.a2 _ _ _⟩
theorem Gf (m:MRe) (w:World) (aj:m.aK w):Calls Tryz.prog 41 #[m.val] w (Re w (nW m.ab)):=by
 obtain ⟨bW,cQ⟩:∃ bW,bW=m:=⟨_,rfl⟩;rw [←cQ] at aj ⊢;have HM:=C cQ;obtain ⟨op,sa,sc,set,ka,kc,kids,mn,mx,mode,n,neg⟩:=m;have da:bW.val=.agg #[H J op,M sa set.length sc,M ka kids.length kc,H J mn,H J mx,H J mode,H J n,F neg]:=by rw [cQ];rfl
 rw [da];have b6:=C aj;clear cQ da aj;go_enter Tryz.func41,Tryz.ntmps41
 go_wp2;refine bodyPost_ret (results_cell_row rfl _ _ (w.heap.size + 1) 26 #[H J 4,M none 0 0,M (some ⟨w.heap.size + 2,0,none⟩) 1 1,H J 0,H J (-1),H J 0,H J 0,F false] (0,0) _ rfl ((I.a1 _ _).heap (heap_alloc2_new w _ _) (by simp)) Tryz.underlying26 rfl mB) rfl ?_;refine ⟨.node 4 none 0 [] (some ⟨w.heap.size + 2,0,none⟩) 1 [bW] 0 (-1) 0 0 false,rfl,rfl,.hR (eK.nil _) ⟨hH.kq (kids:=[bW]) (T:=26) (fz:=(0,0)) (cs:=#[H J op,M sa set.length sc,M ka kids.length kc,H J mn,H J mx,H J mode,H J n,F neg]) ?_ (by rw [HM.o];rfl) (by simp [maxLen]),fun x hx=> ?_⟩,I.a3 _ _ _ _⟩
 ·have h:=heap_alloc_new ((w.alloc (bf op sa set sc ka kids kc mn mx mode n neg)).alloc (.cells #[H J 4,M none 0 0,M (some ⟨w.heap.size + 2,0,none⟩) 1 1,H J 0,H J (-1),H J 0,H J 0,F false] 26)) (bf op sa set sc ka kids kc mn mx mode n neg);rw [show ((w.alloc (bf op sa set sc ka kids kc mn mx mode n neg)).alloc (.cells #[H J 4,M none 0 0,M (some ⟨w.heap.size + 2,0,none⟩) 1 1,H J 0,H J (-1),H J 0,H J 0,F false] 26)).heap.size=w.heap.size + 2 by simp] at h;exact h
 ·simp only [List.mem_cons,List.not_mem_nil,or_false] at hx;subst hx;exact b6.o.ah (I.a3 _ _ _ _)
theorem yY (m1 m2:MRe) (w:World) (aj:m1.aK w) (cV:m2.aK w):Calls Tryz.prog 40 #[m1.val,m2.val] w (Re w (q9 m1.ab m2.ab)):=by
 obtain ⟨o5,hB⟩:∃ o5,o5=m1:=⟨_,rfl⟩;obtain ⟨o6,kV⟩:∃ o6,o6=m2:=⟨_,rfl⟩;rw [←hB] at aj ⊢;rw [←kV] at cV ⊢;have eo:=C hB;have ey:=C kV;obtain ⟨cK,cL,cM,cN,cD,cE,cF,cG,cI,cH,cu,cJ⟩:=m1;obtain ⟨fJ,fK,fL,fM,fC,fD,fE,fF,fH,fG,fm,fI⟩:=m2;have s3:o5.val=.agg #[H J cK,M cL cN.length cM,M cD cF.length cE,H J cG,H J cI,H J cH,H J cu,F cJ]:=by rw [hB];rfl
 have m9:o6.val=.agg #[H J fJ,M fK fM.length fL,M fC fE.length fD,H J fF,H J fH,H J fG,H J fm,F fI]:=by rw [kV];rfl
 rw [s3,m9];have iL:=C aj;have bQ:=C cV;clear hB kV s3 m9 aj cV;go_enter Tryz.func40,Tryz.ntmps40
 go_wp2;refine bodyPost_ret (results_cell_row rfl _ _ (w.heap.size + 2) 26 #[H J 2,M none 0 0,M (some ⟨w.heap.size + 3,0,none⟩) 2 2,H J 0,H J 0,H J 0,H J 0,F false] (0,0) _ rfl ((I.a1 _ _).heap ?_ (by simp)) Tryz.underlying26 rfl mB) rfl ?_
 ·have h:=heap_alloc_new ((w.alloc (bf cK cL cN cM cD cF cE cG cI cH cu cJ)).alloc (bf fJ fK fM fL fC fE fD fF fH fG fm fI)) (.cells #[H J 2,M none 0 0,M (some ⟨w.heap.size + 3,0,none⟩) 2 2,H J 0,H J 0,H J 0,H J 0,F false] 26);rw [show ((w.alloc (bf cK cL cN cM cD cF cE cG cI cH cu cJ)).alloc (bf fJ fK fM fL fC fE fD fF fH fG fm fI)).heap.size=w.heap.size + 2 by simp] at h;exact h
 refine ⟨.node 2 none 0 [] (some ⟨w.heap.size + 3,0,none⟩) 2 [o5,o6] 0 0 0 0 false,rfl,rfl,.hR (eK.nil _) ⟨hH.kq (kids:=[o5,o6]) (T:=26) (fz:=(0,0)) (cs:=#[H J cK,M cL cN.length cM,M cD cF.length cE,H J cG,H J cI,H J cH,H J cu,F cJ,H J fJ,M fK fM.length fL,M fC fE.length fD,H J fF,H J fH,H J fG,H J fm,F fI]) ?_ (by rw [eo.o,ey.o];rfl) (by simp [maxLen]),fun x hx=> ?_⟩,I.a4 _ _ _ _ _⟩
 ·have h:=heap_alloc_new (((w.alloc (bf cK cL cN cM cD cF cE cG cI cH cu cJ)).alloc (bf fJ fK fM fL fC fE fD fF fH fG fm fI)).alloc (.cells #[H J 2,M none 0 0,M (some ⟨w.heap.size + 3,0,none⟩) 2 2,H J 0,H J 0,H J 0,H J 0,F false] 26)) (.cells #[H J cK,M cL cN.length cM,M cD cF.length cE,H J cG,H J cI,H J cH,H J cu,F cJ,H J fJ,M fK fM.length fL,M fC fE.length fD,H J fF,H J fH,H J fG,H J fm,F fI] 26);rw [show (((w.alloc (bf cK cL cN cM cD cF cE cG cI cH cu cJ)).alloc (bf fJ fK fM fL fC fE fD fF fH fG fm fI)).alloc (.cells #[H J 2,M none 0 0,M (some ⟨w.heap.size + 3,0,none⟩) 2 2,H J 0,H J 0,H J 0,H J 0,F false] 26)).heap.size=w.heap.size + 3 by simp] at h;exact h
 ·simp only [List.mem_cons,List.not_mem_nil,or_false] at hx
  rcases hx with rfl | rfl
  ·exact iL.o.ah (I.a4 _ _ _ _ _)
  ·exact bQ.o.ah (I.a4 _ _ _ _ _)
theorem ak0:(Tryz.prog.info? 9).map (fun i=> (i.zero,i.size,i.bytes))=some (some (.string ⟨#[]⟩),1,16):=by kernel_rfl
theorem alL (w:World):Calls Tryz.prog 15 #[] w fun e w'=> ∃ g c,e=.returned (M (some ⟨g,0,none⟩) 17 c)∧I [] w w':=by
 obtain ⟨gq,kn,dQ,fj,eI⟩:=info_parts ak0;have gH:=C kn;have gI:=C dQ;have gJ:=C fj;have gK:=C eI;clear kn dQ fj eI;go_enter Tryz.func15,Tryz.ntmps15
 go_wp2_with fail
 refine Calls.mono (Ps w) ?_;rintro e w2 ⟨g,rfl,Aq,hk,hg⟩;have pR:=C Aq;have b6:=C hk;clear Aq hk hg;go_wp2
 go_loopw [1,6] (fun v i wr=> ∃ (k:Nat) (a:Option Nat) (c:Nat) (xs:List Value),k≤17∧i=H J k∧v=de a k c∧cr wr 9 1 a k c xs∧I [] w wr∧I [] w2 wr∧(∀ g,a=some g→w2.heap.size≤g)) (fun _ i _=> 17 - (intOf i).toNat)
 case atStart=> exact ⟨0,none,0,[],by omega,rfl,rfl,cr.nil _ _ _,b6.o,I.refl _ _,by simp⟩
 case round=>
  obtain ⟨k,a,c,xs,hk,rfl,rfl,dd,jI,hk2,hga⟩:=hrel;have hU:=C dd;have jF:=C jI;have bQ:=C hk2;have nj:=C hga;clear dd jI hga
  by_cases aQ:k < 17
  ·have HS:(k:Int) < 17:=by omega
   obtain ⟨b,ad⟩:∃ b,Mi[k * 2]? =some (.string b):=by
    obtain rfl | rfl | rfl | rfl | rfl | rfl | rfl | rfl | rfl | rfl | rfl | rfl | rfl | rfl | rfl | rfl | rfl:k=0∨k=1∨k=2∨k=3∨k=4∨k=5∨k=6∨k=7∨k=8∨k=9∨k=10∨k=11∨k=12∨k=13∨k=14∨k=15∨k=16:=by omega
    all_goals exact ⟨_,rfl⟩
   have dv:wr.cell? ⟨g,k * 2,none⟩=some (.string b):=hk2.cell (by simp only [World.cell?,pR.o];exact ad) (by simp);have dI:wr.cell? ⟨g,k * 2 + 1,none⟩=some (.func (Fn.func (wm k)) #[] #[]):=hk2.cell (Pt pR.o k aQ) (by simp);obtain ⟨td,hF⟩:∃ td,td=wm k:=⟨_,rfl⟩;rw [←hF] at dI;clear hk2 ad hF
   go_wp2_with (at_builtin;refine yb rfl (.tmp 10) (.tmp 13) 39 rfl 9 gq _ 1 16 Tryz.underlying39 gH.o gI.o gJ.o gK.o rfl (by decide) a k c xs rfl ((hU.o.alloc _).alloc _) ⟨wr.heap.size + 1,0,none⟩ 1 1 [.string b] rfl rfl ?hnews ?hone (by decide) (by omega) (by omega) ?hk)
   case hnews=> exact x4 _ _ _ _ (by simp)
   case hone=> intro u cy;simp at cy;subst cy;rfl
   case hk=>
    intro hv c2 w3 qF aP il;have hga:∀ x∈a.toList,w2.heap.size≤x:=fun x hx=> nj.o x (by simpa using hx);have CC:=b6.o.size;have aR:=C ((jF.o.trans (I.a2 _ _ _)).cn aP (fun x hx=> .inr (by have:=hga x hx;omega)));have cl:=C ((bQ.o.trans (I.a2 _ _ _)).cn aP (fun x hx=> .inr (hga x hx)));have E2:=C qF;have IV:=C (show w2.heap.size≤hv by
     rcases il with h | h
     ·exact nj.o hv h
     ·have h:wr.heap.size + 1 + 1≤hv:=h
      have:=bQ.o.size
      omega)
    clear qF aP il hga CC dv dI;go_wp2;go_roundw
    case rel=> exact ⟨k + 1,some hv,c2,_,by omega,by go_num,rfl,E2.o,aR.o,cl.o,fun x hx=> by cases hx;exact IV.o⟩
    case measure=> simp [intOf];omega
  ·obtain rfl:k=17:=by omega
   cases a with
   | none=> have:=hU.o.2.1;omega
   | some hv=>
    simp only [de,Option.map_some];clear aQ hk hk2;go_wp2;go_ret;exact ⟨hv,c,rfl,jF.o⟩
def mO:Tree:=vh 97 97
def p8:Tree:=vh 98 98
def x0:Tree:=vh 99 99
def Nw:Tree:=gE 3 [q9 mO p8,q9 mO x0]
def Ka:Tree:=gE 3 [p8,x0]
def Nx:Tree:=nW (nW mO)
def J9:Tree:=q9 (nW mO) p8
def Nv:Tree:=gE 7 [q9 mO (nW p8)]
def HK:Tree:=gE 2 [.node 4 [] [mO] 0 (-1) 2 0 false,p8]
theorem aiX (t:Tree):iQ t t=true:=(J7 t t).2 rfl
theorem ai0:uU Nw=some (gE 2 [mO,gE 3 [p8,x0]]):=by
 have h:w5 (q9 mO p8) (q9 mO x0)=true:=by simp [w5,q9,Tree.op,Tree.kids,wq,kN,mO,vh,DL,aiX]
 simp [uU,Nw,qa,gE,Tree.op,Tree.kids,mz,h];simp [hF,im,q9]
theorem ai1:wS [(98,98)] [(99,99)]=[98,99,100]:=by
 have h:ld ([(98,98)] ++ [(99,99)])=[98,99,99,100]:=rfl;rw [wS,h,List.mergeSort_of_pairwise (by decide)]
 decide
theorem XH:nv [(98,98)] [(99,99)]=[(98,99)]:=by
 rw [nv,tn,ai1]
 decide
theorem ai2:AM Ka=some (vh 98 99):=by
 have h:tc p8 x0=true:=by simp [tc,p8,x0,vh,Tree.op,Tree.set,XH]
 simp [AM,Ka,qa,gE,Tree.op,Tree.kids,mz,h];simp [hF,im,p8,x0,vh,Tree.set,XH]
theorem ai3:sq Nx=some (nW mO):=by
 simp [sq,Nx,nW,sO,oI,sg,Tree.op,Tree.mn,Tree.mx,Tree.mode,Tree.kids,mO,vh,fA]
theorem aiY:p0 J9=some HK:=by
 have h:oZ [nW mO,p8]=some 0:=by
  simp [oZ,Br,nW,Tree.op,Tree.mode,Tree.mn,Tree.mx,Tree.kids,mO,p8,vh,qP,fA,q8,ow,p9,Tree.set]
 have e:p0 J9=(oZ [nW mO,p8]).map fun i=> hF 2 [nW mO,p8] i (i + 1) [tY ([nW mO,p8].getD i .nil)]:=by rw [J9,q9,p0,if_pos rfl]
 rw [e,h]
 rfl
theorem aiZ:rj Nv=some (gE 7 [mO]):=by
 have h1:s8 (nW p8)=true:=by simp [s8,nW,p8,vh,qe,og,xk,HI,fA]
 have h2:fA (nW p8)=true:=by simp [nW,fA]
 simp [Nv,gE,q9,rj,Tree.op,Tree.kids,h1,h2,im]
theorem U3 (lo hi:Int) (h:0≤lo∧lo≤hi∧hi≤1114111):(vh lo hi).dE:=by
 refine .mk ⟨by omega,by simp,by simp,by simp,by simp,by simp,by simp,fun _=> ⟨h,by simp⟩,by simp,by simp,by simp,by simp,by simp⟩ (by simp)
theorem Px (a b:Tree) (b8:a.dE) (ad:b.dE):(q9 a b).dE:=by
 refine .mk ⟨by omega,by simp,by simp,by simp,by simp,by simp,by simp,by simp,by simp,by simp,by simp,by simp,by simp⟩ (by intro k hk;simp at hk;rcases hk with rfl | rfl <;> assumption)
theorem ad8 (a b:Tree) (b8:a.dE) (ad:b.dE):(gE 3 [a,b]).dE:=by
 refine .mk ⟨by omega,by simp,by simp,by simp,by simp,by simp,by simp,by simp,by simp,by simp,by simp,by simp,by simp⟩ (by intro k hk;simp at hk;rcases hk with rfl | rfl <;> assumption)
theorem Py (a:Tree) (b8:a.dE):(nW a).dE:=by
 refine .mk ⟨by omega,by simp,by simp,by simp,by simp,by simp,by simp,by simp,by simp,by simp,by simp,by simp,by simp⟩ (by intro k hk;simp at hk;subst hk;exact b8)
theorem ao0 (a:Tree) (b8:a.dE):(gE 7 [a]).dE:=by
 refine .mk ⟨by omega,by simp,by simp,by simp,by simp,by simp,by simp,by simp,by simp,by simp,by simp,by simp,by simp⟩ (by intro k hk;simp at hk;subst hk;exact b8)
theorem Mn:mO.dE:=U3 _ _ (by omega)
theorem Pw:p8.dE:=U3 _ _ (by omega)
theorem ad7:x0.dE:=U3 _ _ (by omega)
theorem aoX:Nw.dE:=ad8 _ _ (Px _ _ Mn Pw) (Px _ _ Mn ad7)
theorem aoY:Ka.dE:=ad8 _ _ Pw ad7
theorem aoZ:Nx.dE:=Py _ (Py _ Mn)
theorem aoV:J9.dE:=Px _ _ (Py _ Mn) Pw
theorem aoW:Nv.dE:=ao0 _ (Px _ _ Mn (Py _ Pw))
def ye (w:World) (T:Tree) (e:Ending) (w':World):Prop:=∃ r:MRe,e=.returned (.tuple #[r.val,F true])∧r.ab=T∧r.aK w'∧I [] w w'∧lV w.heap.size r.aw
theorem ye.hR {w:World} {T:Tree} {e:Ending} {w':World} (h:U9 w (some T) e w'):ye w T e w':=by
 exact h
theorem JX (m:MRe) (w:World) (aj:m.aK w) (ht:m.ab=Nw):Calls Tryz.prog 11 #[H J 4,m.val] w (ye w (gE 2 [mO,gE 3 [p8,x0]])):=
 Calls.mono (JY 4 (some (gE 2 [mO,gE 3 [p8,x0]])) m w (by omega) aj (mf Tryz.func81 (by kernel_rfl) rfl) (fun t h=> by cases h;decide)
  (fun W h=> by
   have:=Y5 m W (aj.ah h) (by rw [ht];exact aoX) (by rw [ht];decide)
   rw [ht,ai0] at this;exact this)) fun _ _ h=> ye.hR h
theorem ahP (m:MRe) (w:World) (aj:m.aK w) (ht:m.ab=Ka):Calls Tryz.prog 11 #[H J 6,m.val] w (ye w (vh 98 99)):=
 Calls.mono (JY 6 (some (vh 98 99)) m w (by omega) aj (mf Tryz.func83 (by kernel_rfl) rfl) (fun t h=> by cases h;decide)
  (fun W h=> by
   have:=ad3 m W (aj.ah h) (by rw [ht];exact aoY) (by rw [ht];decide)
   rw [ht,ai2] at this;exact this)) fun _ _ h=> ye.hR h
theorem ahQ (m:MRe) (w:World) (aj:m.aK w) (ht:m.ab=Nx):Calls Tryz.prog 11 #[H J 8,m.val] w (ye w (nW mO)):=
 Calls.mono (JY 8 (some (nW mO)) m w (by omega) aj (mf Tryz.func85 (by kernel_rfl) rfl) (fun t h=> by cases h;decide)
  (fun W h=> by
   have:=aco m W (aj.ah h) (by rw [ht];exact aoZ)
   rw [ht,ai3] at this;exact this)) fun _ _ h=> ye.hR h
theorem Nk (m:MRe) (w:World) (aj:m.aK w) (ht:m.ab=J9):Calls Tryz.prog 11 #[H J 12,m.val] w (ye w HK):=
 Calls.mono (JY 12 (some HK) m w (by omega) aj (mf Tryz.func89 (by kernel_rfl) rfl) (fun t h=> by cases h;decide)
  (fun W h=> by
   have:=aaq m W (aj.ah h) (by rw [ht];exact aoV) (by rw [ht];decide)
   rw [ht,aiY] at this;exact this)) fun _ _ h=> ye.hR h
theorem JW (m:MRe) (w:World) (aj:m.aK w) (ht:m.ab=Nv):Calls Tryz.prog 11 #[H J 13,m.val] w (ye w (gE 7 [mO])):=
 Calls.mono (JY 13 (some (gE 7 [mO])) m w (by omega) aj (mf Tryz.func90 (by kernel_rfl) rfl) (fun t h=> by cases h;decide)
  (fun W h=> by
   have:=acK m W (aj.ah h) (by rw [ht];exact aoW)
   rw [ht,aiZ] at this;exact this)) fun _ _ h=> ye.hR h
theorem Md (m1 m2:MRe) (T:Tree) (w:World) (h1:m1.aK w) (h2:m2.aK w) (t1:m1.ab=T) (fu:m2.ab=T) (ad:T.bm≤100000):Calls Tryz.prog 13 #[m1.val,m2.val] w fun e w'=> e=.returned (H J 0)∧I [] w w':=by
 have h:=acU m1 m2 w h1 h2 (by rw [t1];exact ad) (by rw [fu];exact ad);rw [t1,fu,RG] at h;exact h
theorem Bx {W ak:World} {g T:Nat} {fz:Nat × Nat} {op:Int} {s u:MRe} {cs:Array Value} (hs:s.aK W) (cy:u.aK W) (hk:I [] W ak) (h:ak.heap[g]? =some (.cells cs T fz)) (hc:cs.toList=fX [s,u]):
  MRe.aK ak (.node op none 0 [] (some ⟨g,0,none⟩) 2 [s,u] 0 0 0 0 false):=
 .hR (eK.nil _) ⟨hH.kq (kids:=[s,u]) h hc (by simp [maxLen]),fun x hx=> by
  simp only [List.mem_cons,List.not_mem_nil,or_false] at hx
  rcases hx with rfl | rfl
  ·exact hs.ah hk
  ·exact cy.ah hk⟩
theorem Gj {W ak:World} {g T:Nat} {fz:Nat × Nat} {op mn mx mode:Int} {s:MRe} {cs:Array Value} (hs:s.aK W) (hk:I [] W ak) (h:ak.heap[g]? =some (.cells cs T fz)) (hc:cs.toList=s.row):
  MRe.aK ak (.node op none 0 [] (some ⟨g,0,none⟩) 1 [s] mn mx mode 0 false):=
 .hR (eK.nil _) ⟨hH.kq (kids:=[s]) h (by rw [hc];simp [fX]) (by simp [maxLen]),fun x hx=> by
  simp only [List.mem_cons,List.not_mem_nil,or_false] at hx;subst hx;exact hs.ah hk⟩
def zl (ak:World) (g:Nat) (T:Tree):Prop:=∃ x:MRe,fb ak g 0 x∧x.ab=T∧x.aK ak
theorem zl.ah {ak wN:World} {g:Nat} {T:Tree} (h:zl ak g T) (k:I [] ak wN):zl wN g T:=by
 obtain ⟨x,h1,h2,h3⟩:=h;exact ⟨x,h1.ah k,h2,h3.ah k⟩
theorem B9 {W:World} {x:MRe} {T:Tree} {t:Nat} {cs:Array Value} (hx:x.aK W) (ht:x.ab=T) (hc:cs=x.row.toArray):zl (W.alloc (.cells cs t)) W.heap.size T:=
 ⟨x,fb.kq (heap_alloc_new W _) hc,ht,hx.ah (I.a1 _ _)⟩
theorem zK {W:World} {g Q9:Nat} {T:Tree} {op sa sc set ka kc kids mn mx mode n neg} (hx:MRe.aK W (.node op sa sc set ka kc kids mn mx mode n neg)) (ht:MRe.ab (.node op sa sc set ka kc kids mn mx mode n neg)=T) (aW:W.heap[g]? =some (.cells #[H J 0,M none 0 0,M none 0 0,H J 0,H J 0,H J 0,H J 0,F false] Q9 (0,0))) (hg:g ∉ (MRe.node op sa sc set ka kc kids mn mx mode n neg).aw):
  zl (hE W g (H J op) (M sa set.length sc) (M ka kids.length kc) (H J mn) (H J mx) (H J mode) (H J n) (F neg)) g T:=
 ⟨.node op sa sc set ka kc kids mn mx mode n neg,fb.kq (rm aW _ _ _ _ _ _ _ _) rfl,ht,hx.bG (jv _ _ _ _ _ _ _ _ _ _) fun b ad=> by simp only [List.mem_cons,List.not_mem_nil,or_false];exact fun h=> hg (h ▸ ad)⟩
def agD:Prop:=∀ w:World,Calls Tryz.prog 17 #[] w fun e w'=> e=.returned (F true)∧I [] w w'
def Bz (t:Tree):Option Tree:=(qa zi 3 t).map fun i=> hF t.op t.kids i (i + 2)
 [gE 2 [gE 3 [im 2 ((t.kids.getD i .nil).kids.take ((t.kids.getD i .nil).kids.length - 1)),im 2 ((t.kids.getD (i + 1) .nil).kids.take ((t.kids.getD (i + 1) .nil).kids.length - 1))],s6 (t.kids.getD i .nil)]]
end Go.Proofs.YtjnlkjlbejelgaaGreat
