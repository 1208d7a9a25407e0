/- Part of the proof. No condition: every lemma says its own. -/
import Derived.Test.YtjnlkjlbejelgaaGreatRSPay
namespace Go.Proofs.YtjnlkjlbejelgaaGreat
open Go.RowKit
open Go.Value renaming int→H,slice→M,bool→F
open Go.IntKind renaming i64→J
set_option maxRecDepth 100000
set_option maxHeartbeats 16000000
theorem UO (path:List Int):∀ (m p:MRe) (bP:Option Addr) (pc:Nat) (w:World),m.aK w→p.aK w→hr w bP path→path.length≤pc→path.length≤1000000→m.ab.bm≤1000000→
  Calls Tryz.prog 42 #[m.val,M bP path.length pc,p.val] w (pL w (m.aw ++ p.aw) 7 (lI m.ab path p.ab)):=by
 obtain ⟨gq,kn,dQ,fj,eI⟩:=info_parts Eb;have gH:=C kn;have gI:=C dQ;have gJ:=C fj;have gK:=C eI;clear kn dQ fj eI
 induction path with
 | nil=>
  intro m p bP pc w aj cV hin hc hl ad;have eU:=C (show ∀ b∈m.aw ++ p.aw,b < w.heap.size from fun b ad=> by
   rcases List.mem_append.1 ad with h | h
   ·exact aj.fi b h
   ·exact cV.fi b h)
  obtain ⟨R,aC⟩:∃ R,R=lI m.ab [] p.ab:=⟨_,rfl⟩;rw [←aC];obtain ⟨src,o1⟩:∃ src,src=m.aw ++ p.aw:=⟨_,rfl⟩;have A4:=C (show ∀ b∈p.aw,b∈src from fun b ad=> by rw [o1];exact List.mem_append_right _ ad);rw [←o1] at eU ⊢;obtain ⟨op1,aM,aN,set1,aS,kc1,aq,mn1,aI,mode1,n1,aL⟩:=m;obtain ⟨op2,cg,cf,bj,ct,kc2,a8,mn2,bY,bX,bn,bZ⟩:=p;have aD:=C (show R=some (MRe.ab (.node op2 cg cf bj ct kc2 a8 mn2 bY bX bn bZ)) by rw [aC,lI]);obtain ⟨U,cd⟩:∃ U,U=w.heap.size:=⟨_,rfl⟩;obtain ⟨aE,cz⟩:∃ aE,aE=((w.alloc (bf op1 aM set1 aN aS aq kc1 mn1 aI mode1 n1 aL)).alloc (bf op2 cg bj cf ct a8 kc2 mn2 bY bX bn bZ)).alloc cO:=⟨_,rfl⟩;have cq:I [] w aE:=by rw [cz];exact I.a3 _ _ _ _
  have iR:aE.heap[U + 1]? =some (bf op2 cg bj cf ct a8 kc2 mn2 bY bX bn bZ):=by rw [cz,cd];exact (I.a1 _ _).heap (heap_alloc2_new w _ _) (by simp)
  have aW:aE.heap[U + 2]? =some cO:=by rw [cz,cd];have h:=heap_alloc_new ((w.alloc (bf op1 aM set1 aN aS aq kc1 mn1 aI mode1 n1 aL)).alloc (bf op2 cg bj cf ct a8 kc2 mn2 bY bX bn bZ)) cO;simpa using h
  have c7:=C cz;have aB:=C cd;have aH:=C cq;have ba:=C aW;have gD:=C (cV.ah cq);obtain ⟨bK,d1,d2,bL,bO,bT,bU,bV⟩:=eR iR;obtain ⟨z0,z1,z2,z3,z4,z5,b9,cc,cj⟩:=ew aW;clear aC hin aj cV hc hl ad cd cz cq iR aW o1;obtain ⟨eo,ey,fS,fT⟩:=Ga (IC (by rw [aB.o];omega:w.heap.size≤U + 2) aH.o (I.refl [] aE) ba.o gD.o (du.rR A4.o) eU.o);simp only [MRe.val,List.length_nil];go_enter Tryz.func42,Tryz.ntmps42
  go_upto_region 1 with fail
  rw [←c7.o,←aB.o];go_wp2;refine rt eo.o ?_;exact pL.iI (.node op2 cg cf bj ct kc2 a8 mn2 bY bX bn bZ) aD.o rfl ey.o fS.o fT.o
 | cons x r ih=>
  intro m p bP pc w aj cV hin hc hl ad;have eU:=C (show ∀ b∈m.aw ++ p.aw,b < w.heap.size from fun b ad=> by
   rcases List.mem_append.1 ad with h | h
   ·exact aj.fi b h
   ·exact cV.fi b h)
  have P2:=C ih;obtain ⟨R,aC⟩:∃ R,R=lI m.ab (x::r) p.ab:=⟨_,rfl⟩;rw [←aC];obtain ⟨src,o1⟩:∃ src,src=m.aw ++ p.aw:=⟨_,rfl⟩;have jx:=C (show ∀ b∈m.aw,b∈src from fun b ad=> by rw [o1];exact List.mem_append_left _ ad);have fp:=C (show ∀ b∈p.aw,b∈src from fun b ad=> by rw [o1];exact List.mem_append_right _ ad);rw [←o1] at eU ⊢;obtain ⟨nQ,j0,rfl,hpx⟩:=hin (by simp);have fQ:=hpx 0 (by simp);rw [Nat.add_zero,List.getD_cons_zero] at fQ;have jC:(x::r).length=r.length + 1:=rfl;rw [jC] at hc hl ⊢;have ys:=C (show nQ < w.heap.size from World.block_lt_of_cell? _ _ fQ);have nm:=C (hin.tail (pc:=pc) hc);have vC:=C cV;obtain ⟨P,gm⟩:∃ P,P=p:=⟨_,rfl⟩;obtain ⟨qu,uT⟩:∃ qu,qu=p.ab:=⟨_,rfl⟩;rw [←gm] at vC fp;rw [←uT] at aC;obtain ⟨op1,aM,aN,set1,aS,kc1,aq,mn1,aI,mode1,n1,aL⟩:=m;have fY:=C (lG ad);replace aC:R=if 0≤x∧x < (MRe.al aq).length then (lI ((MRe.al aq).getD x.toNat .nil) r qu).map fun k=> .node op1 set1 ((MRe.al aq).take x.toNat ++ (k::(MRe.al aq).drop (x.toNat + 1))) mn1 aI mode1 n1 aL else none:=by rw [aC,lI];rfl
  rw [MRe.ee] at aC;have hcap:=aj.ch.cap;have fc:=aj.ch.le;unfold maxLen at hcap;have b6:=C aj.kids;have V5:=C aj.nV;have afy:=C (show P.ab=qu by rw [gm,uT]);have EU:=C (show P.val=p.val by rw [gm]);obtain ⟨op2,cg,cf,bj,ct,kc2,a8,mn2,bY,bX,bn,bZ⟩:=p;obtain ⟨U,cd⟩:∃ U,U=w.heap.size:=⟨_,rfl⟩;obtain ⟨aE,cz⟩:∃ aE,aE=((w.alloc (bf op1 aM set1 aN aS aq kc1 mn1 aI mode1 n1 aL)).alloc (bf op2 cg bj cf ct a8 kc2 mn2 bY bX bn bZ)).alloc cO:=⟨_,rfl⟩;have cq:I [] w aE:=by rw [cz];exact I.a3 _ _ _ _
  have gg:aE.heap[U]? =some (bf op1 aM set1 aN aS aq kc1 mn1 aI mode1 n1 aL):=by rw [cz,cd];exact (I.a2 _ _ _).heap (heap_alloc_new w _) (by simp)
  have iR:aE.heap[U + 1]? =some (bf op2 cg bj cf ct a8 kc2 mn2 bY bX bn bZ):=by rw [cz,cd];exact (I.a1 _ _).heap (heap_alloc2_new w _ _) (by simp)
  have aW:aE.heap[U + 2]? =some cO:=by rw [cz,cd];have h:=heap_alloc_new ((w.alloc (bf op1 aM set1 aN aS aq kc1 mn1 aI mode1 n1 aL)).alloc (bf op2 cg bj cf ct a8 kc2 mn2 bY bX bn bZ)) cO;simpa using h
  have hC:=C (show U + 3≤aE.heap.size by rw [cz,cd];simp);have c7:=C cz;have aB:=C cd;have aH:=C cq;have ba:=C aW;have mm:=C gg;obtain ⟨ar,c1,c2,an,av,ay,ax,az⟩:=eR gg;obtain ⟨bK,d1,d2,bL,bO,bT,bU,bV⟩:=eR iR;have q0:=cq.c fQ;clear ih hpx hin fQ jC cd cz cq gg iR aW o1 gm uT cV;simp only [MRe.val]
  by_cases hx:0≤x∧x < aq.length
  ·obtain ⟨eD,mi⟩:=hx;obtain ⟨i,rfl⟩:∃ i:Nat,x=(i:Int):=⟨x.toNat,by omega⟩;have hi:i < aq.length:=by omega
   have S6:¬ (aq.length:Int)≤(i:Int):=by omega
   have pw:¬ (i:Int) < 0:=by omega
   rw [if_pos ⟨eD,mi⟩,Int.toNat_natCast,show (MRe.al aq).getD i .nil=(aq[i]'hi).ab by rw [List.getD_eq_getElem?_getD,List.getElem?_eq_getElem (by rw [MRe.ee];omega),Option.getD_some,kQ]] at aC;obtain ⟨b,off,rfl,lk,hkx⟩:=aj.kids.ch.dy (by omega);have xS:aq[i]'hi∈aq:=List.getElem_mem hi;have vA:=C (show ∀ x∈(aq[i]'hi).aw,x∈src from fun x hx=> jx.o x (mF xS x hx));have C9:=C (aj.dy xS);have zX:=fY.o.2.2 _ xS;have uf:=hkx i hi;have nz:=C lk;obtain ⟨oF,DU⟩:∃ oF,oF=(aq[i]'hi):=⟨_,rfl⟩;rw [←DU] at vA C9 uf aC zX;obtain ⟨T,hT⟩:∃ T,T=lI oF.ab r qu:=⟨_,rfl⟩;rw [←hT] at aC;have dW:=C aC;have iU:=fun (W:World) (h:I [] w W)=> P2.o oF P (if pc=1 then some ⟨nQ,j0,none⟩ else some ⟨nQ,j0 + 1,none⟩) (pc - 1) W (C9.o.ah h) (vC.o.ah h) (nm.o.bG h (fun _ _=> by simp)) (by omega) (by omega) zX;rw [afy.o,←hT] at iU;rw [EU.o] at iU;obtain ⟨AK,Ao⟩:∃ AK,AK=oF.aw ++ P.aw:=⟨_,rfl⟩;simp only [←Ao] at iU;have A4:=C (show ∀ x∈AK,x∈src by
    rw [Ao];intro x hx
    rcases List.mem_append.1 hx with h | h
    ·exact vA.o x h
    ·exact fp.o x h)
   have dd:∀ W:World,(Instr.sliceAt 22 (M (some ⟨nQ,j0,none⟩) (r.length + 1) pc) (some (H J 1)) none none).run Tryz.prog W=.ok (M (if pc=1 then some ⟨nQ,j0,none⟩ else some ⟨nQ,j0 + 1,none⟩) r.length (pc - 1)) W:=by
    intro W;have q1:¬ ((r.length:Int) + 1 < 1):=by omega
    simp [go_sem,q1]
   obtain ⟨Gr,FR⟩:∃ Gr,Gr=(if pc=1 then some (⟨nQ,j0,none⟩:Addr) else some ⟨nQ,j0 + 1,none⟩):=⟨_,rfl⟩;rw [←FR] at dd;simp only [←FR] at iU;obtain ⟨op3,dk,dm,set3,di,dj,kids3,cA,cC,cB,cv,cx⟩:=oF;have g:=uf.node;obtain ⟨bg,aV,a6,bl,bq,bE,bF,bH⟩:=id g;obtain ⟨ep,aJ,cP,eM,eF,eN,eO,eP⟩:=aH.o.au bg aV a6 bl bq bE bF bH;simp only [MRe.val] at iU;have iU:=C iU;clear g bg aV a6 bl bq bE bF bH hkx uf hT Ao aC FR;have hin:i < aq.length:=by omega
   have Ag:((r.length:Int) + 1==0)=false:=by simp;omega
   clear DU zX ad aj lk xS hi;go_enter Tryz.func42,Tryz.ntmps42
   go_upto_region 1 with fail
   rw [←c7.o,←aB.o];go_wp2_with fail
   refine rg (S:=fun w'=> w'.cell? ⟨U,2,none⟩=some (M (some ⟨b,off,none⟩) aq.length kc1)∧w'.cell? ⟨nQ,j0,none⟩=some (H J i)) (fun _ k=> ⟨k.c c2,k.c q0⟩) fun bM aF=> ?_;refine ag 0 ?_;refine ag 1 ?_;refine ag 2 ?_;refine ag 3 ?_;refine ag 4 ?_;refine ag 5 ?_;refine ag 6 ?_;refine ag 7 ?_;refine ag 8 ?_;refine ag 9 ?_;refine ag 10 ?_;refine ag 11 ?_;refine ag 12 ?_;refine dR ?_;obtain ⟨W,kG⟩:∃ W,W=aE.drew:=⟨_,rfl⟩;rw [←kG];have aR:=C (show I [] aE W by rw [kG];exact (I.refl [] aE).drew);have v2:=aR.o.c c2;have t0:=aR.o.c q0;obtain ⟨g0,g1,g2,g3,kx,k4,dz,kE⟩:=aR.o.au ep aJ cP eM eF eN eO eP;obtain ⟨bg,aV,a6,bl,bq,bE,bF,bH⟩:=aR.o.au bK d1 d2 bL bO bT bU bV;clear aF kG ar c1 c2 an av ay ax az q0 ep aJ cP eM eF eN eO eP bK d1 d2 bL bO bT bU bV;have oX:decide ((i:Int) < 0)=false:=by simp
   have zZ:decide (aq.length≤i)=false:=by simp;exact hin
   simp only [oX,zZ,Bool.or_self];go_upto_region 5 with fail
   clear S6 pw oX zZ
   go_cut [8,9] from 29 to 42 (fun Mc anI db=> ∃ (fr:Nat) (ae:MRe) (ak:World),ak=db∧Mc=.pointer (some ⟨fr,0,none⟩)∧anI=H J (if T.isSome then 0 else 7)∧ae.ab=T.getD .nil∧ae.aK ak∧I [] W ak∧ak.heap[fr]? =some (.cells ae.row.toArray 26 (0,0))∧W.heap.size≤fr∧du W.heap.size src ae.aw)
   case first=>
    refine rg (S:=fun w'=> (w'.cell? ⟨U,2,none⟩=some (M (some ⟨b,off,none⟩) aq.length kc1)∧w'.cell? ⟨nQ,j0,none⟩=some (H J i))∧(w'.cell? ⟨b,off + i * 8,none⟩=some (H J op3)∧w'.cell? ⟨b,off + i * 8 + 1,none⟩=some (M dk set3.length dm)∧w'.cell? ⟨b,off + i * 8 + 2,none⟩=some (M di kids3.length dj)∧w'.cell? ⟨b,off + i * 8 + 3,none⟩=some (H J cA)∧w'.cell? ⟨b,off + i * 8 + 4,none⟩=some (H J cC)∧w'.cell? ⟨b,off + i * 8 + 5,none⟩=some (H J cB)∧w'.cell? ⟨b,off + i * 8 + 6,none⟩=some (H J cv)∧w'.cell? ⟨b,off + i * 8 + 7,none⟩=some (F cx))∧(iK w' (U + 1) op2 cg bj cf ct a8 kc2 mn2 bY bX bn bZ)) (fun _ k=> ⟨⟨k.c v2,k.c t0⟩,(k.au g0 g1 g2 g3 kx k4 dz kE),(k.au bg aV a6 bl bq bE bF bH)⟩) fun bM aF=> ?_;refine ag 0 ?_;refine ag 1 ?_;refine ag 2 ?_;refine ag 3 ?_;refine ag 4 ?_;refine ag 5 ?_;refine ag 6 ?_;refine ag 7 ?_;refine ag 8 ?_;refine ag 9 ?_;refine kX 10 14 (fun ai af=> ?_) fun ai af=> ?_
    ·go_simp;refine Calls.mono (iU.o _ (aH.o.trans aR.o.drew)) ?_;rintro gz w3 ⟨ae,rfl,a7,aT,aP,hqf⟩;have dK:=C a7;have dA:=C aT;have et:=C hqf;obtain ⟨q0,bN⟩:∃ q0,q0=ae:=⟨_,rfl⟩;rw [←bN] at dK dA et;have dt:=C bN;obtain ⟨bA,bB,bC,bD,bs,bt,bu,bo,bx,bw,bp,bz⟩:=ae;obtain ⟨sL,rJ⟩:∃ sL:Int,sL=(if T.isSome then 0 else 7):=⟨_,rfl⟩;simp only [MRe.val,←rJ];have I9:=C rJ;have gu:=C (((I.refl [] W).drew).trans aP);have eS:=C (gu.o.trans (I.a1 w3 cO));have dG:=C (gu.o.trans (I.a1 w3 (bf bA bB bD bC bs bu bt bo bx bw bp bz)));obtain ⟨z0,z1,z2,z3,z4,z5,b9,cc,cj⟩:=ew (heap_alloc_new w3 cO);clear aP a7 aT hqf bN rJ;refine af.out _ _ (bM.o _ gu.o) fun aF=> ?_;clear af ai;try go_frame
     refine ag 11 ?_;refine ag 12 ?_;refine ag 13 ?_;refine bh 14 fun ai af=> ?_;go_simp;refine af.out _ _ (bM.o _ eS.o) fun aF=> ?_;clear af ai;try go_frame
     refine bh 15 fun ai af=> ?_;go_simp;clear z0 z1 z2 z3 z4 z5 b9 cc cj;refine af.out _ _ (bM.o _ dG.o) fun aF=> ?_;clear af ai;try go_frame
     refine ag 16 ?_;refine dR ?_;go_wp2;go_meet;have kW:=gu.o.size;exact ⟨w3.heap.size,q0,_,rfl,rfl,by rw [I9.o],dK.o,dA.o.ah (I.a1 w3 _),dG.o,by rw [dt.o];exact heap_alloc_new w3 _,kW,fun x hx=> by
      rcases et.o x hx with h | h
      ·exact .inl (A4.o x h)
      ·exact .inr h⟩
    ·go_simp;have eS:=C (((I.refl [] W).drew).alloc cO);refine af.out _ _ (bM.o _ eS.o) fun aF=> ?_;clear af ai;try go_frame
     refine bh 10 fun ai af=> ?_;go_simp;refine Calls.mono (iU.o _ ((aH.o.trans aR.o.drew).alloc _)) ?_;rintro gz w3 ⟨ae,rfl,a7,aT,aP,hqf⟩;have dK:=C a7;have dA:=C aT;have et:=C hqf;obtain ⟨q0,bN⟩:∃ q0,q0=ae:=⟨_,rfl⟩;rw [←bN] at dK dA et;have dt:=C bN;obtain ⟨bA,bB,bC,bD,bs,bt,bu,bo,bx,bw,bp,bz⟩:=ae;obtain ⟨sL,rJ⟩:∃ sL:Int,sL=(if T.isSome then 0 else 7):=⟨_,rfl⟩;simp only [MRe.val,←rJ];have I9:=C rJ;have gu:=C (eS.o.trans aP);have oE:=aP.heap (heap_alloc_new W.drew cO) (by simp);have oE:w3.heap[W.heap.size]? =some cO:=oE;obtain ⟨z0,z1,z2,z3,z4,z5,b9,cc,cj⟩:=ew oE;have uG:=C oE;clear aP a7 aT hqf bN rJ oE;refine af.out _ _ (bM.o _ gu.o) fun aF=> ?_;clear af ai;try go_frame
     refine ag 11 ?_;refine ag 12 ?_;refine ag 13 ?_;refine bh 15 fun ai af=> ?_;go_simp;have xY:=jv w3 W.heap.size (H J bA) (M bB bD.length bC) (M bs bu.length bt) (H J bo) (H J bx) (H J bw) (H J bp) (F bz);have bk:=C xY;have dG:=C (gu.o.cn xY (by intro x hx;simp at hx;subst hx;exact .inr (Nat.le_refl _)));clear z0 z1 z2 z3 z4 z5 b9 cc cj xY;refine af.out _ _ (bM.o _ dG.o) fun aF=> ?_;clear af ai;try go_frame
     refine ag 16 ?_;refine dR ?_;go_wp2;go_meet;have HR:=eU.o;have Ox:=aH.o.size;have ara:=aR.o.size;refine ⟨W.heap.size,q0,_,rfl,rfl,by rw [I9.o],dK.o,dA.o.bG bk.o fun x hx=> ?_,dG.o,by rw [dt.o];exact rm uG.o _ _ _ _ _ _ _ _,Nat.le_refl _,fun x hx=> ?_⟩
     ·rcases et.o x hx with h | h
      ·have:=HR x (A4.o x h);simp;omega
      ·have h:W.heap.size + 1≤x:=by simpa using h
       simp;omega
     ·rcases et.o x hx with h | h
      ·exact .inl (A4.o x h)
      ·have h:W.heap.size + 1≤x:=by simpa using h
       exact .inr (by omega)
   case rest=>
    obtain ⟨fr,ae,ak,rfl,rfl,rfl,a7,aT,dh,Aa,Zk,hqf⟩:=hcut;obtain ⟨q0,bN⟩:∃ q0,q0=ae:=⟨_,rfl⟩;rw [←bN] at a7 aT hqf;have dK:=C a7;have dA:=C aT;have et:=C hqf;have dt:=C bN;have dG:=C dh;have Di:=C (aR.o.trans dh);have yl:=C (show U + 3≤fr from Nat.le_trans (Nat.le_trans hC.o aR.o.size) Zk);obtain ⟨bA,bB,bC,bD,bs,bt,bu,bo,bx,bw,bp,bz⟩:=ae;obtain ⟨h0,h1,h2,h3,h4,h5,eW,h7⟩:=eR (v0:=H J bA) (v1:=M bB bD.length bC) (v2:=M bs bu.length bt) (v3:=H J bo) (v4:=H J bx) (v5:=H J bw) (v6:=H J bp) (v7:=F bz) Aa;obtain ⟨sL,rJ⟩:∃ sL:Int,sL=(if T.isSome then 0 else 7):=⟨_,rfl⟩;rw [←rJ];have dp:=dh.c v2;have dv:=dh.c t0;clear bN a7 aT hqf dh Aa Zk v2 t0 g0 g1 g2 g3 kx k4 dz kE bg aV a6 bl bq bE bF bH
    cases T with
    | none=>
     have aD:=C (show R=none by rw [dW.o];rfl);obtain rfl:sL=7:=rJ;obtain ⟨z0,z1,z2,z3,z4,z5,b9,cc,cj⟩:=ew (Di.o.h ba.o);have cw:=C (rm (Di.o.h ba.o) (H J 0) (M none 0 0) (M none 0 0) (H J 0) (H J 0) (H J 0) (H J 0) (F false));have bQ:=C ((aH.o.trans Di.o).cn (jv _ (U + 2) (H J 0) (M none 0 0) (M none 0 0) (H J 0) (H J 0) (H J 0) (H J 0) (F false)) (by intro x hx;simp at hx;subst hx;exact .inr (by rw [aB.o];omega)));go_wp2;refine rt cw.o ?_;exact pL.dL aD.o rfl bQ.o
    | some t=>
     obtain rfl:sL=0:=rJ;have Sn:=aH.o.trans Di.o;have dB:=b6.o.ch.drop (i + 1) (by omega);have o2:=b6.o.ch.take i;have akC:∀ W:World,(Instr.sliceAt 24 (M (some ⟨b,off,none⟩) aq.length kc1) none (some (H J i)) none).run Tryz.prog W=.ok (M (some ⟨b,off,none⟩) i kc1) W:=by
      intro W;have q2:(i:Int)≤kc1:=by omega
      simp [go_sem,q2]
     have Ol:∀ W:World,(Instr.sliceAt 24 (M (some ⟨b,off,none⟩) aq.length kc1) (some (H J ((i:Int) + 1))) none none).run Tryz.prog W=.ok (M (if kc1=i + 1 then some ⟨b,off,none⟩ else some ⟨b,off + (i + 1) * 8,none⟩) (aq.length - (i + 1)) (kc1 - (i + 1))) W:=by
      have S1:∀ j:Nat,j≤aq.length→∀ W:World,(Instr.sliceAt 24 (M (some ⟨b,off,none⟩) aq.length kc1) (some (H J j)) none none).run Tryz.prog W=.ok (M (if kc1=j then some ⟨b,off,none⟩ else some ⟨b,off + j * 8,none⟩) (aq.length - j) (kc1 - j)) W:=by
       intro j c8 W;have q1:(j:Int)≤aq.length:=by omega
       simp [go_sem,q1]
      intro W;exact S1 (i + 1) (by omega) W
     obtain ⟨rN,yK⟩:∃ rN,rN=(if kc1=i + 1 then some (⟨b,off,none⟩:Addr) else some ⟨b,off + (i + 1) * 8,none⟩):=⟨_,rfl⟩;rw [←yK] at dB Ol;have rM:(aq.take i).length=i:=by rw [List.length_take];omega
     have Bi:(aq.drop (i + 1)).length=aq.length - (i + 1):=List.length_drop;have qn:=C (fun (W:World) (h:I [] w W)=> show 0 < i→∃ aX,(some ⟨b,off,none⟩:Option Addr)=some aX∧∀ j u,(fX (aq.take i))[j]? =some u→W.cell? (aX.add j)=some u from fun oW=> (o2.ah h).src (by omega));have qo:=C (fun (W:World) (h:I [] w W)=> show 0 < aq.length - (i + 1)→∃ aX,rN=some aX∧∀ LJ u,(fX (aq.drop (i + 1)))[LJ]? =some u→W.cell? (aX.add LJ)=some u from fun oW=> (dB.ah h).src (by omega));have C6:=C (show (fX (aq.take i)).length=i * 8 by rw [Cg,rM]);have yk:=C (show (fX (aq.drop (i + 1))).length=(aq.length - (i + 1)) * 8 by rw [Cg,Bi]);obtain ⟨ks,hks⟩:∃ ks,ks=aq.take i ++ ([(.node bA bB bC bD bs bt bu bo bx bw bp bz:MRe)] ++ aq.drop (i + 1)):=⟨_,rfl⟩;have HO:MRe.al ks=(MRe.al aq).take i ++ (t::(MRe.al aq).drop (i + 1)):=by
      have hq:(MRe.ab (.node bA bB bC bD bs bt bu bo bx bw bp bz))=t:=by rw [←dt.o];exact dK.o
      rw [hks];simp [MRe.kP,hq]
     have mK:ks.length=i + 1 + (aq.length - (i + 1)):=by rw [hks];simp only [List.length_append,rM,Bi,List.length_cons,List.length_nil];omega
     have gN:=C (show R=some (.node op1 set1 (MRe.al ks) mn1 aI mode1 n1 aL) by rw [dW.o,HO];rfl);have lP:∀ x∈ks,x∈aq∨x=q0:=fun x hx=> by
      rw [hks] at hx
      rcases List.mem_append.1 hx with hx | hx
      ·exact .inl (List.mem_of_mem_take hx)
      ·rcases List.mem_append.1 hx with hx | hx
       ·simp only [List.mem_cons,List.not_mem_nil,or_false] at hx;exact .inr (by rw [hx,dt.o])
       ·exact .inl (List.mem_of_mem_drop hx)
     have MC:=C (show ∀ x∈ks,x.aK ak from fun x hx=> by
      rcases lP x hx with h | h
      ·exact (b6.o.all x h).ah Sn
      ·rw [h];exact dA.o)
     have vx:=C (show ∀ x∈ks,∀ y∈x.aw,y∈src∨aE.heap.size≤y from fun x hx y hy=> by
      rcases lP x hx with h | h
      ·exact .inl (jx.o y (mF h y hy))
      ·rw [h] at hy
       rcases et.o y hy with h | h
       ·exact .inl h
       ·exact .inr (Nat.le_trans aR.o.size h))
     have hL:=C (show ∀ y∈df set1.length aM,y∈src from fun y hy=> jx.o y (by simp only [MRe.aw,List.mem_append];exact .inl hy));have xq:=C mK;have fZ:=C hks;have mN:IntKind.i64.wrap ((i:Int) + 1)=(i:Int) + 1:=IntWalk.i64_in _ (by have:=fY.o.1;omega);have SJ:=fY.o.1;have jF:=C Sn;clear hks HO mK lP rM Bi o2 dB yK Sn;go_upto_region 9 with fail
     refine rg (S:=fun w'=> w'.cell? ⟨U,2,none⟩=some (M (some ⟨b,off,none⟩) aq.length kc1)∧w'.cell? ⟨nQ,j0,none⟩=some (H J i)) (fun _ k=> ⟨k.c dp,k.c dv⟩) fun bM aF=> ?_;refine ag 0 ?_;refine ag 1 ?_;refine ag 2 ?_;refine ag 3 ?_;refine ag 4 ?_;refine ag 5 ?_;refine ag 6 ?_;refine bh 7 fun ai af=> ?_;refine wh (.tmp 47) (.tmp 53) 24 rfl 26 gq _ 8 96 Tryz.underlying24 gH.o gI.o gJ.o gK.o rfl (by decide) none 0 0 [] rfl (cr.nil _ _ _) (some ⟨b,off,none⟩) i kc1 (fX (aq.take i)) rfl C6.o (qn.o _ jF.o.drew) (wT _) (by omega) (by omega) ?_;intro a1 UG w1 dd hk1 re;rw [Nat.zero_add,List.nil_append] at dd;rw [Nat.zero_add];have JM:=C dd;have er:=C (show I [] ak w1 from ((I.refl [] ak).drew).trans hk1);have ke:=C (show ∀ g,a1=some g→ak.heap.size≤g by
      intro g hg
      rcases re with h | ⟨hv,h,h2⟩
      ·rw [hg] at h;cases h
      ·rw [hg] at h;cases h;exact h2)
     clear dd hk1 re;refine af.out _ _ (bM.o _ er.o) fun aF=> ?_;clear af ai;try go_frame
     refine ag 8 ?_;refine dR ?_;replace dp:=er.o.c dp;replace dv:=er.o.c dv;have dx:=er.o.au h0 h1 h2 h3 h4 h5 eW h7;clear h0 h1 h2 h3 h4 h5 eW h7;obtain ⟨h0,h1,h2,h3,h4,h5,eW,h7⟩:=dx;clear aF;simp only [de]
     go_wp2_with (at_builtin;refine tF rfl (.tmp 55) (.tmp 57) 24 rfl 26 gq _ 8 96 Tryz.underlying24 gH.o gI.o gJ.o gK.o rfl (by decide) a1 i UG _ rfl (JM.o.alloc _) (some ⟨w1.heap.size,0,none⟩) 1 1 (fX [(.node bA bB bC bD bs bt bu bo bx bw bp bz:MRe)]) rfl rfl (fun _=> ⟨_,rfl,wa w1 [H J bA,M bB bD.length bC,M bs bu.length bt,H J bo,H J bx,H J bw,H J bp,F bz] 26⟩) (wT _) (by omega) (by omega) ?hk)
     case hk=>
      intro a2 UH w2 dd hk2 m4;have JN:=C dd;have Yi:I [] ak w2:=(er.o.trans (I.a1 w1 _)).cn hk2 (by intro x hx;simp at hx;exact .inr (ke.o x hx));have jD:=C Yi;have wy:=C (show ∀ g,a2=some g→ak.heap.size≤g by
       intro g hg
       rcases m4 with h | ⟨hv,h,h2⟩
       ·exact ke.o g (by rw [←h,hg])
       ·rw [hg] at h;cases h;have:=er.o.size;omega)
      have Fs:∀ y,y < ak.heap.size→∀ g,a1=some g→g≠y:=fun y hy g hg h=> by have:=ke.o g hg;omega
      have eb:=hk2.cell ((I.a1 w1 (bf bA bB bD bC bs bu bt bo bx bw bp bz)).c dp) (by simp;intro h;have:=ke.o _ h;have:=Di.o.size;have:=hC.o;omega);have fo:=hk2.cell ((I.a1 w1 (bf bA bB bD bC bs bu bt bo bx bw bp bz)).c dv) (by simp;intro h;have:=ke.o _ h;have:=jF.o.size;have:=ys.o;omega);clear dd hk2 m4 Yi Fs dp dv JM h0 h1 h2 h3 h4 h5 eW h7 akC;simp only [de];go_upto_region 11 with fail
      refine rg (S:=fun w'=> w'.cell? ⟨U,2,none⟩=some (M (some ⟨b,off,none⟩) aq.length kc1)∧w'.cell? ⟨nQ,j0,none⟩=some (H J i)) (fun _ k=> ⟨k.c eb,k.c fo⟩) fun bM aF=> ?_;refine ag 0 ?_;refine ag 1 ?_;refine ag 2 ?_;refine ag 3 ?_;refine ag 4 ?_;refine ag 5 ?_;refine ag 6 ?_;refine ag 7 ?_;refine bh 8 fun ai af=> ?_;refine wh (.tmp 59) (.tmp 66) 24 rfl 26 gq _ 8 96 Tryz.underlying24 gH.o gI.o gJ.o gK.o rfl (by decide) a2 (i + 1) UH _ rfl (JN.o.ah ((I.refl [] w2).drew) (by simp)) rN (aq.length - (i + 1)) (kc1 - (i + 1)) (fX (aq.drop (i + 1))) rfl yk.o (qo.o _ (jF.o.trans jD.o.drew)) (wT _) (by omega) (by omega) ?_;intro a3 za w3 dd aP zT;rw [List.append_assoc,←Cf,←Cf,←fZ.o,←xq.o] at dd;rw [←xq.o];have Q7:=C dd;have Yj:I [] ak w3:=(jD.o.drew).cn aP (by intro x hx;simp at hx;exact .inr (wy.o x hx));have k0:=C Yj;have I0:=C (show ∀ g,a3=some g→aE.heap.size≤g by
       intro g hg;have h1:=Di.o.size
       rcases zT with h | ⟨hv,h,h2⟩
       ·exact Nat.le_trans h1 (wy.o g (by rw [←h,hg]))
       ·rw [hg] at h;cases h;have:=jD.o.size;have h2:w2.heap.size≤g:=h2;omega)
      have ef:=aP.cell ((I.refl [] w2).drew.c eb) (by simp;intro h;have:=wy.o _ h;have:=Di.o.size;have:=hC.o;omega);have gO:=aP.cell ((I.refl [] w2).drew.c fo) (by simp;intro h;have:=wy.o _ h;have:=jF.o.size;have:=ys.o;omega);clear dd aP zT Yj JN;refine af.out _ _ (⟨ef,gO⟩) (fun aF=> ?_);clear af ai;try go_frame
      refine ag 9 ?_;refine dR ?_;clear eb fo ef gO aF Ol;have vB:=C (hH.we Q7.o);have Hd:=C (Di.o.trans k0.o);have I3:=C (Hd.o.h mm.o);obtain ⟨ar,c1,c2,an,av,ay,ax,az⟩:=eR I3.o;have z7:=h6 I3.o;simp only [de];go_upto_region 13 with fail
      obtain ⟨eu,nM⟩:∃ eu,eu=w3.setCell ⟨U,2,none⟩ (M (a3.map fun g=> ⟨g,0,none⟩) ks.length za):=⟨_,rfl⟩;have i4:I [U] w3 eu:=by rw [nM];exact (I.refl [U] w3).setCell (p:=⟨U,2,none⟩) (.inl (by simp)) _
      have YF:eu.heap[U]? =some (bf op1 aM set1 aN (a3.map fun g=> ⟨g,0,none⟩) ks za mn1 aI mode1 n1 aL):=by rw [nM];exact heap_setCell_same _ U 2 _ _ _ I3.o
      rw [←nM];obtain ⟨ahC,W4,W5,ahD,ahE,ahG,ahH,ahI⟩:=eR YF;have si:w.heap.size≤U:=by rw [aB.o];exact Nat.le_refl _
      have WD:=C (show I [] w eu from (aH.o.trans Hd.o).cn i4 (by intro x hx;simp at hx;subst hx;exact .inr si));have TZ:eu.heap[U + 2]? =some cO:=i4.heap (Hd.o.h ba.o) (by simp);obtain ⟨z0,z1,z2,z3,z4,z5,b9,cc,cj⟩:=ew TZ;have hgB:∀ ae∈df ks.length (a3.map fun g=> (⟨g,0,none⟩:Addr)),U + 3≤ae:=fun ae hq=> Nat.le_trans hC.o ((lV.zJ I0.o) ae hq);have ZD:∀ x∈ks,∀ y∈x.aw,y≠U:=fun x hx y hy h=> by
       rcases vx.o x hx y hy with h1 | h1
       ·have:=eU.o y h1;have:=aB.o;omega
       ·have:=hC.o;omega
      have aal:MRe.aK eu (.node op1 aM aN set1 (a3.map fun g=> ⟨g,0,none⟩) za ks mn1 aI mode1 n1 aL):=by
       refine .hR (V5.o.ah WD.o) ⟨vB.o.bG i4 (fun ae hq=> ?_),fun x hx=> ((MC.o x hx).ah k0.o).bG i4 fun y hy=> ?_⟩
       ·have:=hgB ae hq
        simp;omega
       ·have:=ZD x hx y hy
        simp;exact this
      have Zf:du (U + 2 + 1) src (MRe.node op1 aM aN set1 (a3.map fun g=> ⟨g,0,none⟩) za ks mn1 aI mode1 n1 aL).aw:=fun ae hq=> by
       simp only [MRe.aw,List.mem_append] at hq
       rcases hq with h | h | h
       ·exact .inl (hL.o ae h)
       ·exact .inr (hgB ae h)
       ·obtain ⟨y,hy,o0⟩:=MRe.tm h
        rcases vx.o y hy ae o0 with h | h
        ·exact .inl h
        ·exact .inr (Nat.le_trans hC.o h)
      obtain ⟨aY,cm,fy,gB⟩:=IC (by rw [aB.o];omega:w.heap.size≤U + 2) WD.o (I.refl [] eu) TZ aal Zf eU.o;have eo:=C aY;have ey:=C cm;have fS:=C fy;have fT:=C gB;clear aY cm fy gB nM i4 YF TZ aal Zf hgB z7 ar c1 c2 an av ay ax az ZD;go_wp2;refine rt eo.o ?_;exact pL.iI (.node op1 aM aN set1 (a3.map fun g=> ⟨g,0,none⟩) za ks mn1 aI mode1 n1 aL) gN.o rfl ey.o fS.o fT.o
  ·have aD:=C (show R=none by rw [aC,if_neg hx]);have Ag:((r.length:Int) + 1==0)=false:=by simp;omega
   clear aC aj ad
   by_cases hxn:x < 0
   ·have Ia:decide (x < 0)=true:=by simpa using hxn
    clear hx;go_enter Tryz.func42,Tryz.ntmps42
    go_upto_region 1 with fail
    rw [←c7.o,←aB.o];go_wp2_with fail
    refine rg (S:=fun w'=> w'.cell? ⟨U,2,none⟩=some (M aS aq.length kc1)∧w'.cell? ⟨nQ,j0,none⟩=some (H J x)) (fun _ k=> ⟨k.c c2,k.c q0⟩) fun bM aF=> ?_;refine ag 0 ?_;refine ag 1 ?_;refine ag 2 ?_;refine ag 3 ?_;refine ag 4 ?_;refine c9 5 ?_;refine c9 6 ?_;refine c9 7 ?_;refine c9 8 ?_;refine c9 9 ?_;refine c9 10 ?_;refine c9 11 ?_;refine ag 12 ?_;refine dR ?_;obtain ⟨W,kG⟩:∃ W,W=aE.drew:=⟨_,rfl⟩;rw [←kG];have aR:=C (show I [] aE W by rw [kG];exact (I.refl [] aE).drew);clear aF kG ar c1 c2 an av ay ax az q0 bK d1 d2 bL bO bT bU bV;obtain ⟨z0,z1,z2,z3,z4,z5,b9,cc,cj⟩:=ew (aR.o.h ba.o);have cw:=C (rm (aR.o.h ba.o) (H J 0) (M none 0 0) (M none 0 0) (H J 0) (H J 0) (H J 0) (H J 0) (F false));have bQ:=C ((aH.o.trans aR.o).cn (jv _ (U + 2) (H J 0) (M none 0 0) (M none 0 0) (H J 0) (H J 0) (H J 0) (H J 0) (F false)) (by intro x hx;simp at hx;subst hx;exact .inr (by rw [aB.o];omega)));go_wp2;refine rt cw.o ?_;exact pL.dL aD.o rfl bQ.o
   ·have Oy:(aq.length:Int)≤x:=by omega
    have Ia:decide (x < 0)=false:=by simpa using hxn
    have akS:decide ((aq.length:Int)≤x)=true:=by simpa using Oy
    clear hx;go_enter Tryz.func42,Tryz.ntmps42
    go_upto_region 1 with fail
    rw [←c7.o,←aB.o];go_wp2_with fail
    refine rg (S:=fun w'=> w'.cell? ⟨U,2,none⟩=some (M aS aq.length kc1)∧w'.cell? ⟨nQ,j0,none⟩=some (H J x)) (fun _ k=> ⟨k.c c2,k.c q0⟩) fun bM aF=> ?_;refine ag 0 ?_;refine ag 1 ?_;refine ag 2 ?_;refine ag 3 ?_;refine ag 4 ?_;refine ag 5 ?_;refine ag 6 ?_;refine ag 7 ?_;refine ag 8 ?_;refine ag 9 ?_;refine ag 10 ?_;refine ag 11 ?_;refine ag 12 ?_;refine dR ?_;obtain ⟨W,kG⟩:∃ W,W=aE.drew:=⟨_,rfl⟩;rw [←kG];have aR:=C (show I [] aE W by rw [kG];exact (I.refl [] aE).drew);clear aF kG ar c1 c2 an av ay ax az q0 bK d1 d2 bL bO bT bU bV;obtain ⟨z0,z1,z2,z3,z4,z5,b9,cc,cj⟩:=ew (aR.o.h ba.o);have cw:=C (rm (aR.o.h ba.o) (H J 0) (M none 0 0) (M none 0 0) (H J 0) (H J 0) (H J 0) (H J 0) (F false));have bQ:=C ((aH.o.trans aR.o).cn (jv _ (U + 2) (H J 0) (M none 0 0) (M none 0 0) (H J 0) (H J 0) (H J 0) (H J 0) (F false)) (by intro x hx;simp at hx;subst hx;exact .inr (by rw [aB.o];omega)));go_wp2;refine rt cw.o ?_;exact pL.dL aD.o rfl bQ.o
theorem wk (op:Int) (sa:Option Addr) (ns sc:Nat) (ka:Option Addr) (nk kc:Nat) (mn mx mode n:Int) (neg:Bool):
  ((#[H J op,M sa ns sc,M ka nk kc,H J mn,H J mx,H J mode,H J n,F neg]:Array Value).all (·.oneCell'))=true:=by
 simp [Value.oneCell']
theorem XX (lo:Nat) (src:List Nat):du lo src MRe.nil.aw:=by intro b ad;simp [MRe.nil,MRe.aw,MRe.dN,df] at ad
theorem zb (op:Int) (sa:Option Addr) (ns sc:Nat) (ka:Option Addr) (nk kc:Nat) (mn mx mode n:Int) (neg:Bool) (cp:Int) (ru:Bool):
  ((#[H J op,M sa ns sc,M ka nk kc,H J mn,H J mx,H J mode,H J n,F neg,H J cp,F ru]:Array Value).all (·.oneCell'))=true:=by
 simp [Value.oneCell']
theorem US {w:World} {g T:Nat} {u0 u1 u2 u3 u4 u5 u6 u7 u8 u9:Value} (h:w.heap[g]? =some (.cells #[u0,u1,u2,u3,u4,u5,u6,u7,u8,u9] T (0,0))) (v0 v1 v2 v3 v4 v5 v6 v7:Value):(hE w g v0 v1 v2 v3 v4 v5 v6 v7).heap[g]? =some (.cells #[v0,v1,v2,v3,v4,v5,v6,v7,u8,u9] T (0,0)):=by
 have h0:(w.setCell ⟨g,0,none⟩ v0).heap[g]? =some (.cells #[v0,u1,u2,u3,u4,u5,u6,u7,u8,u9] T (0,0)):=heap_setCell_same _ g 0 _ T v0 h;have h1:((w.setCell ⟨g,0,none⟩ v0).setCell ⟨g,1,none⟩ v1).heap[g]? =some (.cells #[v0,v1,u2,u3,u4,u5,u6,u7,u8,u9] T (0,0)):=heap_setCell_same _ g 1 _ T v1 h0;have h2:(((w.setCell ⟨g,0,none⟩ v0).setCell ⟨g,1,none⟩ v1).setCell ⟨g,2,none⟩ v2).heap[g]? =some (.cells #[v0,v1,v2,u3,u4,u5,u6,u7,u8,u9] T (0,0)):=heap_setCell_same _ g 2 _ T v2 h1;have h3:((((w.setCell ⟨g,0,none⟩ v0).setCell ⟨g,1,none⟩ v1).setCell ⟨g,2,none⟩ v2).setCell ⟨g,3,none⟩ v3).heap[g]? =some (.cells #[v0,v1,v2,v3,u4,u5,u6,u7,u8,u9] T (0,0)):=heap_setCell_same _ g 3 _ T v3 h2;have h4:(((((w.setCell ⟨g,0,none⟩ v0).setCell ⟨g,1,none⟩ v1).setCell ⟨g,2,none⟩ v2).setCell ⟨g,3,none⟩ v3).setCell ⟨g,4,none⟩ v4).heap[g]? =some (.cells #[v0,v1,v2,v3,v4,u5,u6,u7,u8,u9] T (0,0)):=heap_setCell_same _ g 4 _ T v4 h3;have h5:((((((w.setCell ⟨g,0,none⟩ v0).setCell ⟨g,1,none⟩ v1).setCell ⟨g,2,none⟩ v2).setCell ⟨g,3,none⟩ v3).setCell ⟨g,4,none⟩ v4).setCell ⟨g,5,none⟩ v5).heap[g]? =some (.cells #[v0,v1,v2,v3,v4,v5,u6,u7,u8,u9] T (0,0)):=heap_setCell_same _ g 5 _ T v5 h4;have eW:(((((((w.setCell ⟨g,0,none⟩ v0).setCell ⟨g,1,none⟩ v1).setCell ⟨g,2,none⟩ v2).setCell ⟨g,3,none⟩ v3).setCell ⟨g,4,none⟩ v4).setCell ⟨g,5,none⟩ v5).setCell ⟨g,6,none⟩ v6).heap[g]? =some (.cells #[v0,v1,v2,v3,v4,v5,v6,u7,u8,u9] T (0,0)):=heap_setCell_same _ g 6 _ T v6 h5;have h7:((((((((w.setCell ⟨g,0,none⟩ v0).setCell ⟨g,1,none⟩ v1).setCell ⟨g,2,none⟩ v2).setCell ⟨g,3,none⟩ v3).setCell ⟨g,4,none⟩ v4).setCell ⟨g,5,none⟩ v5).setCell ⟨g,6,none⟩ v6).setCell ⟨g,7,none⟩ v7).heap[g]? =some (.cells #[v0,v1,v2,v3,v4,v5,v6,v7,u8,u9] T (0,0)):=heap_setCell_same _ g 7 _ T v7 eW;exact h7
def ft (b s d:Nat) (t:Tree):Prop:=t.bm≤b∧dD t≤s∧ev t≤d
theorem amz {iw x7 uR:Nat} {p:Tree} (hp:ft iw x7 uR p):∀ (path:List Int) {t ae:Tree} {b s d:Nat},ft b s d t→lI t path p=some ae→ft (b + iw) (s + x7) (d + uR) ae:=by
 intro path
 induction path with
 | nil=> intro t ae b s d ht h;cases h;simp only [ft] at *;omega
 | cons x r ih=>
  intro t ae b s d ht h;refine ⟨by have:=UF _ h;simp only [ft] at *;omega,?_⟩;rw [lI] at h
  split at h
  ·rename_i hx
   obtain ⟨k,hk,rfl⟩:=Option.map_eq_some_iff.1 h;have hi:x.toNat < t.kids.length:=by omega
   rw [List.getD_eq_getElem?_getD,List.getElem?_eq_getElem hi,Option.getD_some] at hk
   cases t with
   | node op set kids mn mx mode n neg=>
    simp only [Tree.kids] at hi hk;have h1:=(ih (b:=(kids[x.toNat]).bm) (s:=dD kids[x.toNat]) (d:=ev kids[x.toNat]) ⟨Nat.le_refl _,Nat.le_refl _,Nat.le_refl _⟩ hk).2;have aV:∀ l:List Tree,∀ i (h:i < l.length),∀ k:Tree,dV (l.take i ++ k::l.drop (i + 1)) + dD l[i]=dV l + dD k∧eh (l.take i ++ k::l.drop (i + 1))≤max (eh l) (ev k)∧ev l[i]≤eh l:=by
     intro l
     induction l with
     | nil=> intro i h;simp at h
     | cons y r ih=>
      intro i h k
      cases i with
      | zero=> simp only [List.take_zero,List.nil_append,List.drop_succ_cons,List.drop_zero,dV,eh,List.getElem_cons_zero];omega
      | succ i=>
       have:=ih i (by simpa using h) k
       simp only [List.take_succ_cons,List.cons_append,List.drop_succ_cons,dV,eh,List.getElem_cons_succ];omega
    have h2:=aV kids x.toNat hi k;simp only [ft,ze,Tree.kids,dD,ev] at ht ⊢;omega
  ·cases h
theorem ahX:∀ (path:List Int) {t:Tree} {b s d:Nat},ft b s d t→t.dE→1≤s→1≤d→ft b s d ((jW t path).getD .nil):=by
 intro path t b s d ht h9 hs dB;refine ⟨Nat.le_trans (ahW (path:=path) h9).2 ht.1,?_⟩;have h:∀ (path:List Int) (t x:Tree),jW t path=some x→dD x≤dD t∧ev x≤ev t:=by
  intro path
  induction path with
  | nil=> intro t x h;cases h;exact ⟨Nat.le_refl _,Nat.le_refl _⟩
  | cons y r ih=>
   intro t x h;rw [jW] at h
   split at h
   ·have h1:=ih _ _ h
    rename_i hy
    have hi:y.toNat < t.kids.length:=by omega
    rw [List.getD_eq_getElem?_getD,List.getElem?_eq_getElem hi,Option.getD_some] at h1;have aV:∀ l:List Tree,∀ i (h:i < l.length),dD l[i]≤dV l∧ev l[i]≤eh l:=by
     intro l
     induction l with
     | nil=> intro i h;simp at h
     | cons y r ih=>
      intro i h
      cases i with
      | zero=> simp only [dV,eh,List.getElem_cons_zero];omega
      | succ i=>
       have:=ih i (by simpa using h)
       simp only [dV,eh,List.getElem_cons_succ];omega
    have h2:=aV t.kids y.toNat hi
    cases t
    simp only [Tree.kids,dD,ev] at *;omega
   ·cases h
 cases b8:jW t path with
 | none=> simp only [Option.getD_none,Tree.nil,dD,dV,ev,eh];omega
 | some x=> have:=h path t x b8;have:=ht.2;rw [Option.getD_some];omega
theorem Hp {ak W:World} {g:Nat} {src:List Nat} {op sa sc set ka kc kids mn mx mode n neg} (lF:I [] ak W) (aW:ak.heap[g]? =some cO) (ok:MRe.aK W (.node op sa sc set ka kc kids mn mx mode n neg)) (hfr:du ak.heap.size src (MRe.node op sa sc set ka kc kids mn mx mode n neg).aw) (aQ:∀ b∈src,b < g) (ad:ft 8000 52 10 (MRe.ab (.node op sa sc set ka kc kids mn mx mode n neg))):
  ∃ (y:MRe) (eu:World),eu=W.setRow g #[H J op,M sa set.length sc,M ka kids.length kc,H J mn,H J mx,H J mode,H J n,F neg]∧y.aK eu∧eu.heap[g]? =some (.cells y.row.toArray 26 (0,0))∧I [g] ak eu∧ft 8000 52 10 y.ab∧du ak.heap.size src y.aw:=by
 have cU:I [g] W (W.setRow g #[H J op,M sa set.length sc,M ka kids.length kc,H J mn,H J mx,H J mode,H J n,F neg]):=(I.refl [g] W).setRow (.inl (by simp)) _;have hg:=lt_of_block aW;refine ⟨.node op sa sc set ka kc kids mn mx mode n neg,_,rfl,ok.bG cU fun b ad=> ?_,setRow_heap W g _ _ _ _ (lF.h aW),(lF.mono (by simp)).trans cU,ad,hfr⟩
 rcases hfr b ad with h | h
 ·have:=aQ b h;simp;omega
 ·simp;omega
theorem Ds {ak W:World} {g:Nat} {src:List Nat} {op mn mx mode:Int} {ks:List MRe} {cs:Array Value} (lF:I [] ak W) (aW:ak.heap[g]? =some cO) (hk:∀ k∈ks,k.aK W∧du ak.heap.size src k.aw) (hc:cs.toList=fX ks) (hn:ks.length≤maxLen) (aQ:∀ b∈src,b < g) (ad:ft 8000 52 10 (Tree.node op [] (MRe.al ks) mn mx mode 0 false)):
  ∃ (y:MRe) (eu:World),eu=(W.alloc (.cells cs 26)).setRow g #[H J op,M none 0 0,M (some ⟨W.heap.size,0,none⟩) ks.length ks.length,H J mn,H J mx,H J mode,H J 0,F false]∧y.aK eu∧eu.heap[g]? =some (.cells y.row.toArray 26 (0,0))∧I [g] ak eu∧ft 8000 52 10 y.ab∧du ak.heap.size src y.aw:=
 Hp (op:=op) (sa:=none) (sc:=0) (set:=[]) (ka:=some ⟨W.heap.size,0,none⟩) (kc:=ks.length) (kids:=ks) (mn:=mn) (mx:=mx) (mode:=mode) (n:=0) (neg:=false) (lF.trans (I.a1 _ _)) aW (ON (fun k h=> (hk k h).1) hc hn) (Im lF.size fun k h=> (hk k h).2) aQ ad
def aei (w:World) (e:Ending) (w':World):Prop:=
 ∃ (m:MRe) (cp:Int),e=.returned (fV m cp false)∧m.aK w'∧I [] w w'∧m.ab.bm≤12000∧gZ m.ab cp false=0∧dD m.ab≤80∧ev m.ab≤18
end Go.Proofs.YtjnlkjlbejelgaaGreat
