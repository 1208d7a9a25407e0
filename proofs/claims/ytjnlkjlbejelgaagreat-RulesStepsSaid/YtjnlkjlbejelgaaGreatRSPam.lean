/- Part of the proof. No condition: every lemma says its own. -/
import Derived.Test.YtjnlkjlbejelgaaGreatRSPal
namespace Go.Proofs.YtjnlkjlbejelgaaGreat
open Go.RowKit
open Go.Value renaming int→H,slice→M,bool→F
open Go.IntKind renaming i64→J
open Go.RowKit Go.Sort Go.BigFrame
set_option maxRecDepth 100000
set_option maxHeartbeats 16000000
theorem ac1 (m:MRe) (w:World) (aj:m.aK w) (ad:m.ab.bm≤100000):
  Calls Tryz.prog 57 #[m.val] w fun e w'=> ∃ a c,e=.returned (de a (xh m.ab).length c)∧cr w' 3 1 a (xh m.ab).length c ((xh m.ab).map (H J))∧I [] w w':=by
 obtain ⟨gq,hi,dQ,fj,eI⟩:=info_parts F9;have gH:=C hi;have gI:=C dQ;have gJ:=C fj;have gK:=C eI;obtain ⟨op,sa,sc,set,ka,kc,kids,mn,mx,mode,n,neg⟩:=m;obtain ⟨hbl,Cq,-⟩:=lG ad;have dF:=aj.nV;have hcap:=dF.cap;have fc:=dF.le;have Lc:=aj.ch.cap;have mK:=aj.ch.le;unfold maxLen at hcap Lc;have cW:=C dF;have rF:xh (MRe.ab (.node op sa sc set ka kc kids mn mx mode n neg))=[op,(set.length:Int)] ++ (set.flatMap fun s=> [s.1,s.2]) ++ [mn,mx,mode,n,rb neg,(kids.length:Int)]:=by simp [xh,MRe.ab,Tree.op,Tree.set,Tree.mn,Tree.mx,Tree.mode,Tree.n,Tree.neg,Tree.kids,MRe.ee]
 have NJ:=Uv (MRe.ab (.node op sa sc set ka kc kids mn mx mode n neg));have Yu:(MRe.ab (.node op sa sc set ka kc kids mn mx mode n neg)).set=set:=rfl;rw [Yu] at NJ;rw [rF] at NJ ⊢;rw [NJ];simp only [MRe.val];have j6:=Np w (.node op sa sc set ka kc kids mn mx mode n neg) 26;obtain ⟨U,cd⟩:∃ U,U=w.heap.size:=⟨_,rfl⟩;clear hi dQ fj eI aj ad dF rF Yu NJ
 cases neg
 ·go_enter Tryz.func57,Tryz.ntmps57
  go_upto_region 5 with fail
  simp only [MRe.row] at j6;have mj:=I.a1 (w.alloc (bf op sa set sc ka kids kc mn mx mode n false)) (.cells #[H J op,H J set.length] 3);have wY:=j6.ah mj;have GF:cr ((w.alloc (bf op sa set sc ka kids kc mn mx mode n false)).alloc (.cells #[H J op,H J set.length] 3)) 3 1 (some (w.heap.size + 1)) 2 2 [H J op,H J set.length]:=
   cr.y6 (cur:=#[H J op,H J set.length]) (heap_alloc2_new w _ _) rfl (by unfold maxLen;omega)
  have LS:=I.a2 w (bf op sa set sc ka kids kc mn mx mode n false) (.cells #[H J op,H J set.length] 3);rw [←cd] at wY GF ⊢;have jc:=C wY;have hU:=C GF;have aH:=C LS;have aB:=C cd;clear wY GF LS mj j6 cd
  generalize (w.alloc (bf op sa set sc ka kids kc mn mx mode n false)).alloc (.cells #[H J op,H J set.length] 3)=aE at *
  go_wp2
  go_loopw [4,5] (fun v i wr=> ∃ (k:Nat) (g c:Nat),k≤set.length∧i=H J k∧v=M (some ⟨g,0,none⟩) (2 + 2 * k) c∧cr wr 3 1 (some g) (2 + 2 * k) c ([H J op,H J set.length] ++ gU (set.take k))∧U + 1≤g∧fb wr U 0 (.node op sa sc set ka kc kids mn mx mode n false)∧I [] w wr) (fun _ i _=> set.length - (intOf i).toNat)
  case atStart=> exact ⟨0,U + 1,2,Nat.zero_le _,rfl,rfl,hU.o,Nat.le_refl _,jc.o,aH.o⟩
  case round=>
   obtain ⟨k,g,c,hk,rfl,rfl,dd,hgB,ix,ck⟩:=hrel;have yv:=C dd;have wx:=C ix;have cX:=C ck;have TS:=aB.o;have Ac:w.heap.size≤g:=by omega
   obtain ⟨dv,dI,ea,fo,gO,ha,hb,hd⟩:=ix.ez;clear TS
   by_cases aQ:k < set.length
   ·obtain ⟨b,off,rfl,lk,hc⟩:=(cW.o.ah ck).at_ (by omega);obtain ⟨ar,c1⟩:=hc k aQ;have sY:set.take (k + 1)=set.take k ++ [set[k]]:=List.take_succ_eq_append_getElem aQ;have HG:=cW.o.fi;have zW:b≠g:=fun h=> by
     have h1:=HG b (by unfold df;rw [if_neg (by omega)];simp);omega
    generalize set[k]=s at *
    obtain ⟨p,ae⟩:=s;simp only at ar c1;have Jb:=C sY;have Ad:(k:Int) < (set.length:Int):=by omega
    have kn:(0:Int)≤(k:Int):=by omega
    have TR:IntKind.i64.wrap (k:Int)=(k:Int):=IntWalk.i64_in _ (by omega);have Kl:¬ U=g:=by omega
    clear hc sY HG dd ix ck;go_wp2
    go_region_held3 (fun w'=> w'.cell? ⟨U,1,none⟩=some (M (some ⟨b,off,none⟩) set.length sc)∧w'.cell? ⟨b,off + k * 2,none⟩=some (H J p)∧w'.cell? ⟨b,off + k * 2 + 1,none⟩=some (H J ae))
     (with_reducible first | exact ⟨((I.refl [] wr).drew).c dI,((I.refl [] wr).drew).c ar,((I.refl [] wr).drew).c c1⟩ | exact ⟨((I.a1 wr _).drew).c dI,((I.a1 wr _).drew).c ar,((I.a1 wr _).drew).c c1⟩ | exact ⟨er.o.cell dI (by simp;exact Kl),er.o.cell ar (by simp;exact zW),er.o.cell c1 (by simp;exact zW)⟩ | fail)
     (first
      | (refine adI rfl (.tmp 21) (.tmp 34) 22 rfl 3 gq _ 1 8 Tryz.underlying22 gH.o gI.o gJ.o gK.o rfl (by decide) (some g) (2 + 2 * k) c _ rfl (yv.o.ah ((I.a1 wr _).drew) (by simp)) ⟨wr.heap.size,0,none⟩ 2 2 [H J p,H J ae] rfl rfl (acr wr [H J p,H J ae] 3) (by intro u cy;simp at cy;rcases cy with rfl | rfl <;> rfl) (by decide) (by omega) (by omega) ?_;intro g3 an w3 qF aP il;have er:=C (show I [g] wr w3 from ((I.a1 wr _).drew.mono (by simp)).trans (by simpa using aP));have qo:=C qF;have Jc:=C il;clear qF aP il))
    have gQ:=er.o.size;have S4:U + 1≤g3:=by
     rcases Jc.o with h | h
     ·cases h;exact hgB
     ·have h2:wr.heap.size≤(wr.alloc (.cells #[H J p,H J ae] 3)).drew.heap.size:=(I.a1 wr _).drew.size;have h3:=cX.o.size;have h4:=aB.o;have h5:=abO dv;omega
    have Kj:=fb.abB wx.o er.o (by simp;exact Kl);have Le:=cX.o.cn er.o (by intro x hx;simp at hx;subst hx;exact .inr Ac);have qF:cr w3 3 1 (some g3) (2 + 2 * (k + 1)) an ([H J op,H J set.length] ++ gU (set.take (k + 1))):=by
     rw [Jb.o,Dx,←List.append_assoc,show 2 + 2 * (k + 1)=2 + 2 * k + 2 by omega];exact qo.o
    have PJ:=C Kj;have P7:=C Le;have Ju:=C qF;clear Kj Le qF dv dI ea fo gO ha hb hd ar c1 er gQ;go_wp2;go_roundw
    case rel=> exact ⟨k + 1,g3,an,by omega,by go_num,by rw [show 2 + 2 * (k + 1)=2 + 2 * k + 2 by omega],Ju.o,S4,PJ.o,P7.o⟩
    case measure=> simp [intOf];omega
   ·obtain rfl:k=set.length:=by omega
    rw [List.take_length] at yv;clear dd ix ck
    go_wp2_with (at_builtin;refine yb rfl (.tmp 36) (.tmp 49) 22 rfl 3 gq _ 1 8 Tryz.underlying22 gH.o gI.o gJ.o gK.o rfl (by decide) (some g) (2 + 2 * set.length) c _ rfl (yv.o.alloc _) ⟨wr.heap.size,0,none⟩ 6 6 [H J mn,H J mx,H J mode,H J n,H J 0,H J kids.length] rfl rfl (x4 _ _ _ _ rfl) (by intro u cy;simp at cy;rcases cy with rfl | rfl | rfl | rfl | rfl | rfl <;> rfl) (by decide) (by omega) (by omega) ?hk)
    case hk=>
     intro kx av w4 D4 bc hg4;have Lf:=(cX.o.alloc _).cn bc (by intro x hx;simp at hx;subst hx;exact .inr Ac);have QD:=C D4;have P8:=C Lf;clear D4 bc hg4 Lf dv dI ea fo gO ha hb hd;go_wp2;go_ret;refine ⟨some kx,av,by rw [show 8 + 2 * set.length=2 + 2 * set.length + 6 by omega];rfl,?_,P8.o⟩;have h:=QD.o;rw [show 2 + 2 * set.length + 6=8 + 2 * set.length by omega] at h
     simpa [gU,List.map_flatMap,rb] using h
 ·go_enter Tryz.func57,Tryz.ntmps57
  go_upto_region 5 with fail
  simp only [MRe.row] at j6;have mj:=I.a1 (w.alloc (bf op sa set sc ka kids kc mn mx mode n true)) (.cells #[H J op,H J set.length] 3);have wY:=j6.ah mj;have GF:cr ((w.alloc (bf op sa set sc ka kids kc mn mx mode n true)).alloc (.cells #[H J op,H J set.length] 3)) 3 1 (some (w.heap.size + 1)) 2 2 [H J op,H J set.length]:=
   cr.y6 (cur:=#[H J op,H J set.length]) (heap_alloc2_new w _ _) rfl (by unfold maxLen;omega)
  have LS:=I.a2 w (bf op sa set sc ka kids kc mn mx mode n true) (.cells #[H J op,H J set.length] 3);rw [←cd] at wY GF ⊢;have jc:=C wY;have hU:=C GF;have aH:=C LS;have aB:=C cd;clear wY GF LS mj j6 cd
  generalize (w.alloc (bf op sa set sc ka kids kc mn mx mode n true)).alloc (.cells #[H J op,H J set.length] 3)=aE at *
  go_wp2
  go_loopw [4,5] (fun v i wr=> ∃ (k:Nat) (g c:Nat),k≤set.length∧i=H J k∧v=M (some ⟨g,0,none⟩) (2 + 2 * k) c∧cr wr 3 1 (some g) (2 + 2 * k) c ([H J op,H J set.length] ++ gU (set.take k))∧U + 1≤g∧fb wr U 0 (.node op sa sc set ka kc kids mn mx mode n true)∧I [] w wr) (fun _ i _=> set.length - (intOf i).toNat)
  case atStart=> exact ⟨0,U + 1,2,Nat.zero_le _,rfl,rfl,hU.o,Nat.le_refl _,jc.o,aH.o⟩
  case round=>
   obtain ⟨k,g,c,hk,rfl,rfl,dd,hgB,ix,ck⟩:=hrel;have yv:=C dd;have wx:=C ix;have cX:=C ck;have TS:=aB.o;have Ac:w.heap.size≤g:=by omega
   obtain ⟨dv,dI,ea,fo,gO,ha,hb,hd⟩:=ix.ez;clear TS
   by_cases aQ:k < set.length
   ·obtain ⟨b,off,rfl,lk,hc⟩:=(cW.o.ah ck).at_ (by omega);obtain ⟨ar,c1⟩:=hc k aQ;have sY:set.take (k + 1)=set.take k ++ [set[k]]:=List.take_succ_eq_append_getElem aQ;have HG:=cW.o.fi;have zW:b≠g:=fun h=> by
     have h1:=HG b (by unfold df;rw [if_neg (by omega)];simp);omega
    generalize set[k]=s at *
    obtain ⟨p,ae⟩:=s;simp only at ar c1;have Jb:=C sY;have Ad:(k:Int) < (set.length:Int):=by omega
    have kn:(0:Int)≤(k:Int):=by omega
    have TR:IntKind.i64.wrap (k:Int)=(k:Int):=IntWalk.i64_in _ (by omega);have Kl:¬ U=g:=by omega
    clear hc sY HG dd ix ck;go_wp2
    go_region_held3 (fun w'=> w'.cell? ⟨U,1,none⟩=some (M (some ⟨b,off,none⟩) set.length sc)∧w'.cell? ⟨b,off + k * 2,none⟩=some (H J p)∧w'.cell? ⟨b,off + k * 2 + 1,none⟩=some (H J ae))
     (with_reducible first | exact ⟨((I.refl [] wr).drew).c dI,((I.refl [] wr).drew).c ar,((I.refl [] wr).drew).c c1⟩ | exact ⟨((I.a1 wr _).drew).c dI,((I.a1 wr _).drew).c ar,((I.a1 wr _).drew).c c1⟩ | exact ⟨er.o.cell dI (by simp;exact Kl),er.o.cell ar (by simp;exact zW),er.o.cell c1 (by simp;exact zW)⟩ | fail)
     (first
      | (refine adI rfl (.tmp 21) (.tmp 34) 22 rfl 3 gq _ 1 8 Tryz.underlying22 gH.o gI.o gJ.o gK.o rfl (by decide) (some g) (2 + 2 * k) c _ rfl (yv.o.ah ((I.a1 wr _).drew) (by simp)) ⟨wr.heap.size,0,none⟩ 2 2 [H J p,H J ae] rfl rfl (acr wr [H J p,H J ae] 3) (by intro u cy;simp at cy;rcases cy with rfl | rfl <;> rfl) (by decide) (by omega) (by omega) ?_;intro g3 an w3 qF aP il;have er:=C (show I [g] wr w3 from ((I.a1 wr _).drew.mono (by simp)).trans (by simpa using aP));have qo:=C qF;have Jc:=C il;clear qF aP il))
    have gQ:=er.o.size;have S4:U + 1≤g3:=by
     rcases Jc.o with h | h
     ·cases h;exact hgB
     ·have h2:wr.heap.size≤(wr.alloc (.cells #[H J p,H J ae] 3)).drew.heap.size:=(I.a1 wr _).drew.size;have h3:=cX.o.size;have h4:=aB.o;have h5:=abO dv;omega
    have Kj:=fb.abB wx.o er.o (by simp;exact Kl);have Le:=cX.o.cn er.o (by intro x hx;simp at hx;subst hx;exact .inr Ac);have qF:cr w3 3 1 (some g3) (2 + 2 * (k + 1)) an ([H J op,H J set.length] ++ gU (set.take (k + 1))):=by
     rw [Jb.o,Dx,←List.append_assoc,show 2 + 2 * (k + 1)=2 + 2 * k + 2 by omega];exact qo.o
    have PJ:=C Kj;have P7:=C Le;have Ju:=C qF;clear Kj Le qF dv dI ea fo gO ha hb hd ar c1 er gQ;go_wp2;go_roundw
    case rel=> exact ⟨k + 1,g3,an,by omega,by go_num,by rw [show 2 + 2 * (k + 1)=2 + 2 * k + 2 by omega],Ju.o,S4,PJ.o,P7.o⟩
    case measure=> simp [intOf];omega
   ·obtain rfl:k=set.length:=by omega
    rw [List.take_length] at yv;clear dd ix ck
    go_wp2_with (at_builtin;refine yb rfl (.tmp 36) (.tmp 49) 22 rfl 3 gq _ 1 8 Tryz.underlying22 gH.o gI.o gJ.o gK.o rfl (by decide) (some g) (2 + 2 * set.length) c _ rfl (yv.o.alloc _) ⟨wr.heap.size,0,none⟩ 6 6 [H J mn,H J mx,H J mode,H J n,H J 1,H J kids.length] rfl rfl (x4 _ _ _ _ rfl) (by intro u cy;simp at cy;rcases cy with rfl | rfl | rfl | rfl | rfl | rfl <;> rfl) (by decide) (by omega) (by omega) ?hk)
    case hk=>
     intro kx av w4 D4 bc hg4;have Lf:=(cX.o.alloc _).cn bc (by intro x hx;simp at hx;subst hx;exact .inr Ac);have QD:=C D4;have P8:=C Lf;clear D4 bc hg4 Lf dv dI ea fo gO ha hb hd;go_wp2;go_ret;refine ⟨some kx,av,by rw [show 8 + 2 * set.length=2 + 2 * set.length + 6 by omega];rfl,?_,P8.o⟩;have h:=QD.o;rw [show 2 + 2 * set.length + 6=8 + 2 * set.length by omega] at h
     simpa [gU,List.map_flatMap,rb] using h
theorem alk (l m:List Int) (k:Nat) (h:k < l.length) (oW:k < m.length):o3 (l.drop k) (m.drop k)=if l[k] < m[k] then -1 else if m[k] < l[k] then 1 else o3 (l.drop (k + 1)) (m.drop (k + 1)):=by
 rw [List.drop_eq_getElem_cons h,List.drop_eq_getElem_cons oW];rfl
theorem alm (l m:List Int) (k:Nat) (h:¬ (k < l.length∧k < m.length)):o3 (l.drop k) (m.drop k)=0:=by
 by_cases h1:k < l.length
 ·rw [List.drop_of_length_le (l:=m) (by omega)]
  cases l.drop k <;> rfl
 ·rw [List.drop_of_length_le (l:=l) (by omega)];rfl
theorem acU (m1:MRe):∀ (m2:MRe) (w:World),m1.aK w→m2.aK w→m1.ab.bm≤100000→m2.ab.bm≤100000→
  Calls Tryz.prog 13 #[m1.val,m2.val] w fun e w'=> e=.returned (H J (ra m1.ab m2.ab))∧I [] w w':=by
 induction m1 using MRe.nq with
 | h op1 aM aN set1 aS kc1 aq mn1 aI mode1 n1 aL ih=>
  intro m2 w aj cV gg iR;obtain ⟨op2,cg,cf,bj,ct,kc2,a8,mn2,bY,bX,bn,bZ⟩:=m2;have xK:=Xt (MRe.ab (.node op1 aM aN set1 aS kc1 aq mn1 aI mode1 n1 aL)) (MRe.ab (.node op2 cg cf bj ct kc2 a8 mn2 bY bX bn bZ));rw [←abM] at xK;have hk1:(MRe.ab (.node op1 aM aN set1 aS kc1 aq mn1 aI mode1 n1 aL)).kids=MRe.al aq:=rfl;have hk2:(MRe.ab (.node op2 cg cf bj ct kc2 a8 mn2 bY bX bn bZ)).kids=MRe.al a8:=rfl;rw [hk1,hk2] at xK;have jC:o3 (xh (MRe.ab (.node op1 aM aN set1 aS kc1 aq mn1 aI mode1 n1 aL))) (xh (MRe.ab (.node op2 cg cf bj ct kc2 a8 mn2 bY bX bn bZ)))=0→aq.length=a8.length:=fun h=> by
   rw [abM] at h;have h2:=LU h (((MRe.ab (.node op1 aM aN set1 aS kc1 aq mn1 aI mode1 n1 aL)).kids.length:Int),((MRe.ab (.node op2 cg cf bj ct kc2 a8 mn2 bY bX bn bZ)).kids.length:Int)) (by simp [qO,wi]);simp only at h2;rw [hk1,hk2,MRe.ee,MRe.ee] at h2;omega
  have uK:=C (fun W (h:I [] w W)=> ac1 (.node op1 aM aN set1 aS kc1 aq mn1 aI mode1 n1 aL) W (aj.ah h) gg);have uL:=C (fun W (h:I [] w W)=> ac1 (.node op2 cg cf bj ct kc2 a8 mn2 bY bX bn bZ) W (cV.ah h) iR);have oB:=Uv (MRe.ab (.node op1 aM aN set1 aS kc1 aq mn1 aI mode1 n1 aL));have m6:=Uv (MRe.ab (.node op2 cg cf bj ct kc2 a8 mn2 bY bX bn bZ));obtain ⟨th,DD⟩:∃ gy,gy=xh (MRe.ab (.node op1 aM aN set1 aS kc1 aq mn1 aI mode1 n1 aL)):=⟨_,rfl⟩;obtain ⟨pT,Kv⟩:∃ gy,gy=xh (MRe.ab (.node op2 cg cf bj ct kc2 a8 mn2 bY bX bn bZ)):=⟨_,rfl⟩;rw [←DD] at xK jC uK oB;rw [←Kv] at xK jC uL m6;have gQ:(MRe.ab (.node op1 aM aN set1 aS kc1 aq mn1 aI mode1 n1 aL)).set=set1:=rfl;have gn:(MRe.ab (.node op2 cg cf bj ct kc2 a8 mn2 bY bX bn bZ)).set=bj:=rfl;rw [gQ] at oB;rw [gn] at m6;obtain ⟨yH,ajI,hbm1⟩:=lG gg;obtain ⟨HD,ajJ,hbm2⟩:=lG iR;have hp1:th.length≤200008:=by omega
  have Bs:pT.length≤200008:=by omega
  have p3:0 < th.length:=by omega
  have rf:0 < pT.length:=by omega
  obtain ⟨ae,hq⟩:∃ ae,ae=ra (MRe.ab (.node op1 aM aN set1 aS kc1 aq mn1 aI mode1 n1 aL)) (MRe.ab (.node op2 cg cf bj ct kc2 a8 mn2 bY bX bn bZ)):=⟨_,rfl⟩;rw [←hq] at xK ⊢;have ni:=C xK;have yo:=C jC;have ff:=C (fun k (hk:k∈aq) k' (Ct:k'∈a8) W (h:I [] w W)=> ih k hk k' W ((aj.dy hk).ah h) ((cV.dy Ct).ah h) (hbm1 k hk) (hbm2 k' Ct));have iL:=C aj.kids;have bQ:=C cV.kids;have km:=aj.ch.cap;have tX:=cV.ch.cap;have NX:=aj.ch.le;have Fz:=cV.ch.le;unfold maxLen at km tX;have j6:=Xl w (.node op1 aM aN set1 aS kc1 aq mn1 aI mode1 n1 aL) (.node op2 cg cf bj ct kc2 a8 mn2 bY bX bn bZ) 26;have cq:=I.a2 w (bf op1 aM set1 aN aS aq kc1 mn1 aI mode1 n1 aL) (bf op2 cg bj cf ct a8 kc2 mn2 bY bX bn bZ);obtain ⟨U,cd⟩:∃ U,U=w.heap.size:=⟨_,rfl⟩;simp only [MRe.row] at j6;simp only [MRe.val] at uK uL ⊢;have jc:=C j6;have aH:=C cq;clear xK jC DD Kv gQ gn hbm1 hbm2 hq aj cV gg iR ih hk1 hk2 j6 cq oB m6 ajI ajJ;go_enter Tryz.func13,Tryz.ntmps13
  go_wp2_with fail
  rw [←cd] at jc ⊢;refine Calls.mono (uK.o _ aH.o) ?_;rintro e w2 ⟨a1,c1,rfl,gQ,hk2⟩;have aU:=C (aH.o.trans hk2);have agz:=C hk2;have r7:=C gQ;obtain ⟨c6,y1,dp,eb,ef,ej,ek,el⟩:=(jc.o.2.ah hk2).ez;simp only [de];clear hk2 gQ cd;go_wp2_with fail
  refine Calls.mono (uL.o _ aU.o) ?_;rintro e w3 ⟨a2,c2,rfl,gn,aP⟩;have aR:=C (aU.o.trans aP);have Hd:=C (agz.o.trans aP);have ag8:=C (r7.o.ah aP (by simp));have r8:=C gn
  cases a1 with
  | none=> exfalso;have h1:=r7.o.2;have h2:th.length=0:=h1.1;omega
  | some g1=>
  cases a2 with
  | none=> exfalso;have h1:=r8.o.2;have h2:pT.length=0:=h1.1;omega
  | some g2=>
  simp only [de,Option.map_some];clear aP gn c6 y1 dp eb ef ej ek el r7;go_wp2
  go_loopw [7] (fun i wr=> ∃ k:Nat,k≤th.length∧k≤pT.length∧i=H J k∧o3 (th.drop k) (pT.drop k)=o3 th pT∧I [] w3 wr) (fun i _=> th.length - (intOf i).toNat)
  case atStart=> exact ⟨0,Nat.zero_le _,Nat.zero_le _,rfl,rfl,I.refl _ _⟩
  case round=>
   obtain ⟨k,hk,Ct,rfl,hl,ck⟩:=hrel;have jG:=C hl;have cX:=C ck
   by_cases aQ:k < th.length∧k < pT.length
   ·obtain ⟨hlt1,s0⟩:=aQ
    ·have c1:=ck.cell (ag8.o.cell k (by simpa using hlt1)) (by simp);have d1:=ck.cell (r8.o.cell k (by simpa using s0)) (by simp);rw [List.getElem_map] at c1 d1;have dB:=alk th pT k hlt1 s0;rw [hl] at dB
     generalize th[k]=x at *
     generalize pT[k]=y at *
     have kn:(0:Int)≤(k:Int):=by omega
     have Ad:(k:Int) < (th.length:Int):=by omega
     have K7:(k:Int) < (pT.length:Int):=by omega
     by_cases h1:x < y
     ·rw [if_pos h1] at dB;have gi:=C dB;have n5:=ni.o;rw [dB,if_pos (by decide)] at n5;have yj:=C n5;clear dB hl ck n5;go_wp2
      go_quiet (fail)
      go_wp2;go_ret;exact ⟨by rw [yj.o];rfl,aR.o.trans (cX.o.drewN _)⟩
     ·by_cases h2:y < x
      ·rw [if_neg h1,if_pos h2] at dB;have n5:=ni.o;rw [dB,if_pos (by decide)] at n5;have yj:=C n5;clear dB hl ck n5;go_wp2
       go_quiet (fail)
       go_wp2
       go_quiet (fail)
       go_wp2;go_ret;exact ⟨by rw [yj.o];rfl,aR.o.trans (by first | exact (cX.o.drewN _).drewN _ | exact cX.o.drewN _)⟩
      ·rw [if_neg h1,if_neg h2] at dB;have gi:=C dB;clear dB hl ck;go_wp2
       go_quiet (fail)
       go_wp2
       go_quiet (fail)
       go_wp2;go_roundw
       case rel=> exact ⟨k + 1,by omega,by omega,by go_num,gi.o.symm,cX.o.drewN _⟩
       case measure=> simp [intOf];omega
   ·obtain ⟨lK,rfl⟩:∃ lK:World,lK=wr:=⟨_,rfl⟩;have aW:o3 th pT=0:=by rw [←hl];exact alm th pT k aQ
    have Lg:=yo.o aW;have n5:=ni.o;rw [aW,if_neg (by simp)] at n5;have yj:=C n5;have Qa:=C Lg;have ea:=(Hd.o.trans ck).cell (jc.o.1.ez.2.2.1) (by simp);have lW:=C (aR.o.trans ck);have dp:=(Hd.o.trans ck).cell (jc.o.2.ez.2.2.1) (by simp);have ajM:(k < th.length∧¬ k < pT.length)∨¬ k < th.length:=by omega
    clear hl ck n5 Lg aW ni yo aQ uK uL
    rcases ajM with ⟨hlt1,s0⟩ | hlt1
    all_goals
     go_wp2
     go_loopw [8] (fun i qU=> ∃ j:Nat,j≤aq.length∧i=H J j∧rC ((MRe.al aq).drop j) ((MRe.al a8).drop j)=rC (MRe.al aq) (MRe.al a8)∧I [] lK qU) (fun i _=> aq.length - (intOf i).toNat)
     case atStart=> exact ⟨0,Nat.zero_le _,rfl,rfl,I.refl _ _⟩
     case round=>
      obtain ⟨j,c8,rfl,hl,ck⟩:=hrel;have BL:=C hl;have b6:=C ck
      by_cases hltj:j < aq.length
      ·have Tl:j < a8.length:=by rw [←Qa.o];exact hltj
       have gC:=lW.o.trans ck;obtain ⟨b,off,rfl,ad,hx⟩:=(iL.o.ah gC).ch.dy (by omega);obtain ⟨iw,off',rfl,m5,hx'⟩:=(bQ.o.ah gC).ch.dy (by omega);have u2:=ck.c ea;have v2:=ck.c dp;have iU:=C (fun W (h:I [] lK W)=> ff.o aq[j] (List.getElem_mem hltj) a8[j] (List.getElem_mem Tl) W (lW.o.trans h));have dB:rC (MRe.al aq) (MRe.al a8)=if ra aq[j].ab a8[j].ab≠0 then ra aq[j].ab a8[j].ab else rC ((MRe.al aq).drop (j + 1)) ((MRe.al a8).drop (j + 1)):=by
        rw [←hl,wt aq j hltj,wt a8 j Tl,rC]
       obtain ⟨q',H2⟩:∃ q',q'=ra aq[j].ab a8[j].ab:=⟨_,rfl⟩;rw [←H2] at dB iU;have gi:=C dB;have eY:=hx j hltj;have Yf:=hx' j Tl
       generalize aq[j]=ka at *
       generalize a8[j]=l9 at *
       obtain ⟨op3,dk,dm,set3,di,dj,kids3,cA,cC,cB,cv,cx⟩:=ka;obtain ⟨e7,e8,e9,fa,e0,e1,e2,e3,e5,e4,eQ,e6⟩:=l9;obtain ⟨ar,c1,c2,an,av,ay,ax,az⟩:=eY.Ns;obtain ⟨bK,d1,d2,bL,bO,bT,bU,bV⟩:=Yf.Ns;simp only [MRe.val] at iU;have Xq:∀ d os,Calls Tryz.prog 13 #[.agg #[H J op3,M dk set3.length dm,M di kids3.length dj,H J cA,H J cC,H J cB,H J cv,F cx],.agg #[H J e7,M e8 fa.length e9,M e0 e2.length e1,H J e3,H J e5,H J e4,H J eQ,F e6]] (grow (redrawn wr d) os) fun e jw=> e=.returned (H J q')∧∃ p:Regrown,jw=grow (redrawn wr p.d) p.os:=fun d os=> Calls.regrown_of ((iU.o _ (ck.trans (I.kY (below_regrown wr d os)))).mono fun e w' ⟨he,hk⟩=> ⟨he,hk.below (Nat.le_refl _)⟩);have aeg:=C Xq;have kn:(0:Int)≤(j:Int):=by omega
       have Ad:(j:Int) < (aq.length:Int):=by omega
       have K7:(j:Int) < (a8.length:Int):=by omega
       clear Xq eY Yf dB H2 gC hx hx' hl ff ck;go_wp2;have p2:=cell_regrown u2;have iz:=cell_regrown v2;have c0:=cell_regrown ar;have cT:=cell_regrown c1;have s2:=cell_regrown c2;have lR:=cell_regrown an;have kM:=cell_regrown av;have kh:=cell_regrown ay;have k7:=cell_regrown ax;have lJ:=cell_regrown az;have t0:=cell_regrown bK;have t1:=cell_regrown d1;have fu:=cell_regrown d2;have t3:=cell_regrown bL;have t4:=cell_regrown bO;have t5:=cell_regrown bT;have jm:=cell_regrown bU;have jn:=cell_regrown bV;clear ar c1 c2 an av ay ax az bK d1 d2 bL bO bT bU bV u2 v2;refine wp_region_quiet_below (by kernel_rfl) (by kernel_rfl) ?_
       repeat (go_big_quiet_step (exact aeg.o _ _))
       refine wpQuiet_nil ?_;intro _ i7;obtain ⟨dY,jK⟩:=i7;subst jK;have hk:=I.kY (below_regrown wr dY.d dY.os);have uF:=C (b6.o.trans hk);clear hk p2 iz c0 cT s2 lR kM kh k7 lJ t0 t1 fu t3 t4 t5 jm jn
       generalize grow (redrawn wr dY.d) dY.os=aA at *
       by_cases D1:q'=0
       ·have ky:=gi.o;rw [if_neg (by simp [D1])] at ky;have rZ:=C ky;clear ky gi;subst D1;go_wp2;go_roundw
        case rel=> exact ⟨j + 1,by omega,by go_num,rZ.o.symm,uF.o⟩
        case measure=> simp [intOf];omega
       ·have ky:=gi.o;rw [if_pos D1] at ky;have wB:=C ky;have vY:(q' !=0)=true:=by simp [D1]
        clear ky gi;go_wp2;go_ret;exact ⟨by rw [yj.o,wB.o];rfl,lW.o.trans uF.o⟩
      ·obtain rfl:j=aq.length:=by omega
       have h0:rC (MRe.al aq) (MRe.al a8)=0:=by rw [←hl,List.drop_of_length_le (by rw [MRe.ee];omega)];simp [rC]
       have BH:=C h0;have u2:=ck.c ea;clear hl ck h0;go_wp2;go_ret;exact ⟨by rw [yj.o,BH.o];rfl,lW.o.trans b6.o⟩
theorem U1 {p:Tree→Bool} {l:List Tree} {k:Nat} (hk:k < l.length) (h:∀ x∈l.take k,p x=true) (hp:p l[k]=true):∀ x∈l.take (k + 1),p x=true:=by
 rw [List.take_succ_eq_append_getElem hk];intro x hx
 rcases List.mem_append.1 hx with hx | hx
 ·exact h x hx
 ·simp at hx;subst hx;exact hp
theorem alY (l:List Tree):qP l=l.all fA:=by
 induction l with
 | nil=> rfl
 | cons x r ih=> simp only [qP,List.all_cons,ih]
theorem alZ (l:List Tree):xg l=l.any fA:=by
 induction l with
 | nil=> rfl
 | cons x r ih=> simp only [xg,List.any_cons,ih]
theorem Rt {p:Tree→Bool} {l:List Tree} (h:∀ x∈l.take l.length,p x=true):l.all p=true:=by
 rw [List.take_length] at h;exact List.all_eq_true.2 h
theorem Rs {p:Tree→Bool} {l:List Tree} {k:Nat} (hk:k < l.length) (h:p l[k]=false):l.all p=false:=by
 cases hq:l.all p with
 | false=> rfl
 | true=> rw [List.all_eq_true.1 hq _ (List.getElem_mem hk)] at h;cases h
theorem Xf {p:Tree→Bool} {l:List Tree} {k:Nat} (hk:k < l.length) (h:p l[k]=true):l.any p=true:=List.any_eq_true.2 ⟨_,List.getElem_mem hk,h⟩
theorem Xe {p:Tree→Bool} {l:List Tree} (h:∀ x∈l.take l.length,p x=false):l.any p=false:=by
 rw [List.take_length] at h
 cases hq:l.any p with
 | false=> rfl
 | true=> obtain ⟨x,hx,hp⟩:=List.any_eq_true.1 hq;rw [h x hx] at hp;cases hp
mutual
def dD:Tree→Nat
 | .node _ _ kids _ _ _ _ _=> 1 + dV kids
def dV:List Tree→Nat
 | []=> 0
 | k::ks=> dD k + dV ks
end
mutual
def ev:Tree→Nat
 | .node _ _ kids _ _ _ _ _=> eh kids + 1
def eh:List Tree→Nat
 | []=> 0
 | k::ks=> max (ev k) (eh ks)
end
theorem UT {l:List Tree} {k:Nat} (h:k < l.length):dV (l.take (k + 1))=dV (l.take k) + dD l[k]:=by
 induction l generalizing k with
 | nil=> simp at h
 | cons x r ih=>
  cases k with
  | zero=> simp [dV]
  | succ n=>
   have:=ih (k:=n) (by simpa using h)
   simp only [List.take_succ_cons,dV,this,List.getElem_cons_succ];omega
theorem Xx {l:List Tree} {k:Nat} (h:k < l.length):eh (l.take (k + 1))=max (eh (l.take k)) (ev l[k]):=by
 induction l generalizing k with
 | nil=> simp at h
 | cons x r ih=>
  cases k with
  | zero=> simp [eh]
  | succ n=>
   have:=ih (k:=n) (by simpa using h)
   simp only [List.take_succ_cons,eh,this,List.getElem_cons_succ];omega
theorem AJ:∀ t:Tree,dD t≤t.bm∧ev t≤t.bm:=by
 intro t
 induction t using Tree.nq with
 | h op set kids mn mx mode n neg ih=>
  have hs:∀ l:List Tree,(∀ k∈l,dD k≤k.bm∧ev k≤k.bm)→dV l≤Tree.ed l∧eh l≤Tree.ed l:=by
   intro l
   induction l with
   | nil=> intro _;exact ⟨Nat.le_refl _,Nat.le_refl _⟩
   | cons x r ih2=>
    intro h;have h1:=h x (by simp);have h2:=ih2 (fun k hk=> h k (by simp [hk]));simp only [dV,eh,Tree.ed];omega
  have:=hs kids ih
  simp only [dD,ev,Tree.bm];omega
theorem anm (m:MRe):∀ (w:World),m.aK w→m.ab.bm≤1000000→
  Calls Tryz.prog 74 #[m.val] w fun e w'=> e=.returned (H J (dD m.ab:Nat))∧I [] w w':=by
 induction m using MRe.nq with
 | h op sa sc set ka kc kids mn mx mode n neg ih=>
  intro w aj ad;have cZ:=(AJ (MRe.ab (.node op sa sc set ka kc kids mn mx mode n neg))).1;obtain ⟨R,aC⟩:∃ R,R=dD (MRe.ab (.node op sa sc set ka kc kids mn mx mode n neg)):=⟨_,rfl⟩;rw [←aC] at cZ ⊢;replace aC:R=1 + dV (MRe.al kids):=by rw [aC];simp only [MRe.ab,dD]
  have ajy:R≤1000000:=by omega
  have dW:=C aC;obtain ⟨hbl,_,hbk⟩:=lG ad;have ff:=C (fun k (hk:k∈kids) W (h:I [] w W)=> ih k hk W ((aj.dy hk).ah h) (hbk k hk));have b6:=C aj.kids;have fc:=aj.ch.le;have hcap:=aj.ch.cap;unfold maxLen at hcap;have Qm:=C (show ∀ k,k≤kids.length→dV ((MRe.al kids).take k)≤R - 1 from fun k hk=> by
   have h1:∀ (l:List Tree) j,dV (l.take j)≤dV l:=by
    intro l
    induction l with
    | nil=> intro j;simp
    | cons x r ih2=>
     intro j
     cases j with
     | zero=> exact Nat.zero_le _
     | succ j=> have:=ih2 j;simp only [List.take_succ_cons,dV];omega
   have:=h1 (MRe.al kids) k
   omega)
  simp only [MRe.val];obtain ⟨U,aA,ar,c1,c2,an,av,ay,ax,az,dw,aB,aZ⟩:=tD w op sa sc set ka kc kids mn mx mode n neg;clear ih aj ad hbk aC cZ;go_enter Tryz.func74,Tryz.ntmps74
  go_upto_region 1 with fail
  rw [←dw.o,←aB.o];go_wp2
  go_loopw [3,4] (fun v i wr=> ∃ k:Nat,k≤kids.length∧i=H J k∧v=H J ((1 + dV ((MRe.al kids).take k):Nat):Int)∧I [] aA wr) (fun _ i _=> kids.length - (intOf i).toNat)
  case atStart=> exact ⟨0,Nat.zero_le _,rfl,rfl,I.refl _ _⟩
  case round=>
   obtain ⟨k,gC,rfl,rfl,ck⟩:=hrel;have cX:=C ck;have dp:=ck.c c2;clear ck
   by_cases aQ:k < kids.length
   ·obtain ⟨b,off,rfl,ad,hx⟩:=(b6.o.ah (aZ.o.trans cX.o)).ch.dy (by omega);have eD:=hx k aQ;have bI:=C (ff.o kids[k] (List.getElem_mem aQ) wr (aZ.o.trans cX.o));have i5:k < (MRe.al kids).length:=by rw [MRe.ee];exact aQ
    have hn:=UT i5;rw [kQ kids k aQ] at hn;have hA:=Qm.o (k + 1) (by omega);obtain ⟨Dr,KI⟩:∃ Dr,Dr=dV ((MRe.al kids).take k):=⟨_,rfl⟩;rw [←KI] at hn ⊢
    generalize kids[k]=m at *
    obtain ⟨ae,hq⟩:∃ ae,ae=dD m.ab:=⟨_,rfl⟩;rw [←hq] at bI hn;rw [hn] at hA;have dP:=C hn;obtain ⟨op1,aM,aN,set1,aS,kc1,aq,mn1,aI,mode1,n1,aL⟩:=m;have g:=eD.node;obtain ⟨bg,aV,a6,bl,bq,bE,bF,bH⟩:=id g;simp only [MRe.val] at bI;have p3:1 + Dr + ae≤1000001:=by omega
    clear g eD hx hq hn KI hA ad;go_wp2_with fail
    refine Calls.mono bI.o ?_;rintro e w3 ⟨rfl,aP⟩;have aR:=C (cX.o.trans aP);clear aP;go_wp2;go_roundw
    case rel=> exact ⟨k + 1,by omega,by go_num,by rw [dP.o];congr 1;omega,aR.o⟩
    case measure=> simp [intOf];omega
   ·obtain rfl:k=kids.length:=by omega
    have h0:1 + dV ((MRe.al kids).take kids.length)=R:=by rw [dW.o,←MRe.ee,List.take_length]
    rw [h0];clear h0;go_wp2;go_ret;exact ⟨rfl,aZ.o.trans cX.o⟩
theorem am1 (m:MRe):∀ (w:World),m.aK w→m.ab.bm≤1000000→
  Calls Tryz.prog 75 #[m.val] w fun e w'=> e=.returned (H J (ev m.ab:Nat))∧I [] w w':=by
 induction m using MRe.nq with
 | h op sa sc set ka kc kids mn mx mode n neg ih=>
  intro w aj ad;have cZ:=(AJ (MRe.ab (.node op sa sc set ka kc kids mn mx mode n neg))).2;obtain ⟨R,aC⟩:∃ R,R=ev (MRe.ab (.node op sa sc set ka kc kids mn mx mode n neg)):=⟨_,rfl⟩;rw [←aC] at cZ ⊢;replace aC:R=eh (MRe.al kids) + 1:=by rw [aC];simp only [MRe.ab,ev]
  have ajy:R≤1000000:=by omega
  have dW:=C aC;obtain ⟨hbl,_,hbk⟩:=lG ad;have ff:=C (fun k (hk:k∈kids) W (h:I [] w W)=> ih k hk W ((aj.dy hk).ah h) (hbk k hk));have b6:=C aj.kids;have fc:=aj.ch.le;have hcap:=aj.ch.cap;unfold maxLen at hcap;have Qm:=C (show ∀ k,k≤kids.length→eh ((MRe.al kids).take k)≤R - 1 from fun k hk=> by
   have h1:∀ (l:List Tree) j,eh (l.take j)≤eh l:=by
    intro l
    induction l with
    | nil=> intro j;simp
    | cons x r ih2=>
     intro j
     cases j with
     | zero=> exact Nat.zero_le _
     | succ j=> have:=ih2 j;simp only [List.take_succ_cons,eh];omega
   have:=h1 (MRe.al kids) k
   omega)
  simp only [MRe.val];obtain ⟨U,aA,ar,c1,c2,an,av,ay,ax,az,dw,aB,aZ⟩:=tD w op sa sc set ka kc kids mn mx mode n neg;clear ih aj ad hbk aC cZ;go_enter Tryz.func75,Tryz.ntmps75
  go_upto_region 1 with fail
  rw [←dw.o,←aB.o];go_wp2
  go_loopw [3,4] (fun v i wr=> ∃ k:Nat,k≤kids.length∧i=H J k∧v=H J ((eh ((MRe.al kids).take k):Nat):Int)∧I [] aA wr) (fun _ i _=> kids.length - (intOf i).toNat)
  case atStart=> exact ⟨0,Nat.zero_le _,rfl,rfl,I.refl _ _⟩
  case round=>
   obtain ⟨k,gC,rfl,rfl,ck⟩:=hrel;have cX:=C ck;have dp:=ck.c c2;clear ck
   by_cases aQ:k < kids.length
   ·obtain ⟨b,off,rfl,ad,hx⟩:=(b6.o.ah (aZ.o.trans cX.o)).ch.dy (by omega);have eD:=hx k aQ;have bI:=C (ff.o kids[k] (List.getElem_mem aQ) wr (aZ.o.trans cX.o));have i5:k < (MRe.al kids).length:=by rw [MRe.ee];exact aQ
    have hn:=Xx i5;rw [kQ kids k aQ] at hn;have hA:=Qm.o (k + 1) (by omega);obtain ⟨Dr,KI⟩:∃ Dr,Dr=eh ((MRe.al kids).take k):=⟨_,rfl⟩;rw [←KI] at hn ⊢
    generalize kids[k]=m at *
    obtain ⟨ae,hq⟩:∃ ae,ae=ev m.ab:=⟨_,rfl⟩;rw [←hq] at bI hn;rw [hn] at hA;have dP:=C hn;obtain ⟨op1,aM,aN,set1,aS,kc1,aq,mn1,aI,mode1,n1,aL⟩:=m;have g:=eD.node;obtain ⟨bg,aV,a6,bl,bq,bE,bF,bH⟩:=id g;simp only [MRe.val] at bI;have p3:Dr≤1000001∧ae≤1000001:=by omega
    clear g eD hx hq hn KI hA ad;go_wp2_with fail
    refine Calls.mono bI.o ?_;rintro e w3 ⟨rfl,aP⟩;have aR:=C (cX.o.trans aP);clear aP
    by_cases Fx:(Dr:Int) < (ae:Int)
    ·go_wp2;go_roundw
     case rel=> exact ⟨k + 1,by omega,by go_num,by rw [dP.o];congr 1;omega,aR.o⟩
     case measure=> simp [intOf];omega
    ·go_wp2;go_roundw
     case rel=> exact ⟨k + 1,by omega,by go_num,by rw [dP.o];congr 1;omega,aR.o⟩
     case measure=> simp [intOf];omega
   ·obtain rfl:k=kids.length:=by omega
    have h0:eh ((MRe.al kids).take kids.length)=R - 1:=by rw [dW.o,←MRe.ee,List.take_length];omega
    rw [h0];have h1:((R - 1:Nat):Int) + 1=(R:Int):=by have:=dW.o;omega
    have eo:=C h1;clear h0 h1;go_wp2;go_ret;exact ⟨by rw [←eo.o];rfl,aZ.o.trans cX.o⟩
def ahf (n:Int) (w:World) (e:Ending) (w':World):Prop:=∃ k:Int,0≤k∧k < n∧e=.returned (H J k)∧w=w'
theorem acL (ao:Option Addr) (c:Nat) (xs:List Int) (i n:Int) (w:World) (hx:hr w ao xs) (hl:xs.length≤9223372036854775807) (ad:∀ x∈xs,np x) (hn:0 < n):
  Calls Tryz.prog 58 #[M ao xs.length c,H J i,H J n] w (ahf n w):=by
 by_cases h0:i < 0
 ·go_enter Tryz.func58,Tryz.ntmps58
  go_wp2;go_ret;exact ⟨0,by omega,hn,rfl,rfl⟩
 ·by_cases h1:i < xs.length
  ·obtain ⟨k,rfl⟩:∃ k:Nat,i=k:=⟨i.toNat,by omega⟩;obtain ⟨b,off,rfl,hc⟩:=hx (by omega);have aqm:=hc k (by omega);have hk:np (xs.getD k 0):=by
    have hm:xs.getD k 0∈xs:=by
     rw [List.getD_eq_getElem?_getD,List.getElem?_eq_getElem (by omega),Option.getD_some];exact List.getElem_mem _
    exact ad _ hm
   generalize xs.getD k 0=x at *
   have kR:=tS x n;have lC:=uP x n hn
   generalize nD x n=ae at *
   have jE:=C lC;have b6:=C hk;have dP:=C hn;have kR:=C kR;have HN:k < xs.length:=by omega
   clear hx hc ad lC hk;go_enter Tryz.func58,Tryz.ntmps58
   go_wp2_with fail
   refine Calls.mono (kR.o _ dP.o b6.o) ?_;rintro e w' ⟨rfl,rfl⟩;go_wp2;go_ret;exact ⟨ae,jE.o.1,jE.o.2,rfl,rfl⟩
  ·go_enter Tryz.func58,Tryz.ntmps58
   go_wp2;go_ret;exact ⟨0,by omega,hn,rfl,rfl⟩
structure kg (w:World) (g:Nat) (cS:Option Addr) (dH:Nat) (bR:List Int) (uses lf:Int):Prop where
 kz:hr w cS bR
 len:bR.length≤9223372036854775807
 i64:∀ x∈bR,np x
 AH:0 < bR.length→∀ a,cS=some a→a.block < w.heap.size∧a.block≠g
 row:∃ ahV caps:Int,0≤caps∧caps≤4∧w.heap[g]? =some (.cells #[M cS bR.length dH,H J ahV,H J uses,H J lf,H J caps] 99 (0,0))
theorem hr.bG {w w':World} {S:List Nat} {cS:Option Addr} {bR:List Int} (h:hr w cS bR) (k:I S w w') (hs:∀ a,cS=some a→a.block ∉ S):hr w' cS bR:=fun h0=> by
 obtain ⟨b,off,rfl,hc⟩:=h h0;exact ⟨b,off,rfl,fun j c8=> k.cell (hc j c8) (hs ⟨b,off,none⟩ rfl)⟩
theorem hr.Uc {w w':World} {S:List Nat} {cS:Option Addr} {bR:List Int} (h:hr w cS bR) (k:I S w w') (hs:0 < bR.length→∀ a,cS=some a→a.block ∉ S):hr w' cS bR:=fun h0=> by
 obtain ⟨b,off,rfl,hc⟩:=h h0;exact ⟨b,off,rfl,fun j c8=> k.cell (hc j c8) (hs h0 ⟨b,off,none⟩ rfl)⟩
theorem hr.lt {w:World} {cS:Option Addr} {bR:List Int} (h:hr w cS bR) (h0:0 < bR.length):∀ a,cS=some a→a.block < w.heap.size:=fun a b8=> by
 obtain ⟨b,off,rfl,hc⟩:=h h0
 cases b8
 exact World.block_lt_of_cell? _ _ (hc 0 h0)
theorem kg.ah {w w':World} {g:Nat} {cS dH bR uses lf} (h:kg w g cS dH bR uses lf) (k:I [] w w'):kg w' g cS dH bR uses lf:=by
 obtain ⟨a,c,h0,h1,aO⟩:=h.row;exact ⟨h.kz.bG k (fun _ _=> by simp),h.len,h.i64,fun h0 a b8=> ⟨Nat.lt_of_lt_of_le (h.AH h0 a b8).1 k.size,(h.AH h0 a b8).2⟩,a,c,h0,h1,k.h aO⟩
theorem kg.put {w w':World} {g:Nat} {cS dH bR uses lf} (h:kg w g cS dH bR uses lf) (k:I [g] w w') {a l c:Int} (h0:0≤c) (h1:c≤4)
  (aO:w'.heap[g]? =some (.cells #[M cS bR.length dH,H J a,H J uses,H J l,H J c] 99 (0,0))):kg w' g cS dH bR uses l:=
 ⟨h.kz.Uc k (fun h0 a b8=> by have:=(h.AH h0 a b8).2;simpa using this),h.len,h.i64,fun h0 a b8=> ⟨Nat.lt_of_lt_of_le (h.AH h0 a b8).1 k.size,(h.AH h0 a b8).2⟩,a,c,h0,h1,aO⟩
theorem vm {w:World} {g T:Nat} {a b c d e:Value} (h:w.heap[g]? =some (.cells #[a,b,c,d,e] T (0,0))):
  w.cell? ⟨g,0,none⟩=some a∧w.cell? ⟨g,1,none⟩=some b∧w.cell? ⟨g,2,none⟩=some c∧w.cell? ⟨g,3,none⟩=some d∧w.cell? ⟨g,4,none⟩=some e∧(∀ i,w.frozen? ⟨g,i,none⟩=false):=by
 refine ⟨?_,?_,?_,?_,?_,fun i=> ?_⟩ <;> simp [World.cell?,World.frozen?,h]
def agI (w:World) (g:Nat) (cS:Option Addr) (dH:Nat) (bR:List Int) (uses lf n:Int) (e:Ending) (w':World):Prop:=
 ∃ k:Int,0≤k∧k < n∧e=.returned (H J k)∧kg w' g cS dH bR uses lf∧I [g] w w'∧∀ v,w.cell? ⟨g,4,none⟩=some v→w'.cell? ⟨g,4,none⟩=some v
theorem wb {w:World} {g:Nat} {cS dH bR uses lf} (h:kg w g cS dH bR uses lf) (n:Int) (hn:0 < n):
  Calls Tryz.prog 105 #[.pointer (some ⟨g,0,none⟩),H J n] w (agI w g cS dH bR uses lf n):=by
 obtain ⟨a,c,h0,h1,aO⟩:=h.row;obtain ⟨ar,c1,c2,an,av,fh⟩:=vm aO;have aD:=C aO;have HM:=C h;have ny:=C h0;have eo:=C h1;have dP:=C hn;clear h h0 h1 aO hn;go_enter Tryz.func105,Tryz.ntmps105
 go_upto_region 2 with fail
 obtain ⟨a1,re⟩:∃ a1,a1=wrap64 (a + 1):=⟨_,rfl⟩;rw [←re];obtain ⟨ak,cY⟩:∃ ak,ak=w.setCell ⟨g,1,none⟩ (H J a1):=⟨_,rfl⟩;rw [←cY];have dh:I [g] w ak:=by rw [cY];exact (I.refl [g] w).setCell (p:=⟨g,1,none⟩) (.inl (by simp)) _
 have D2:ak.heap[g]? =some (.cells #[M cS bR.length dH,H J a1,H J uses,H J lf,H J c] 99 (0,0)):=by rw [cY];exact heap_setCell_same _ g 1 _ _ _ aD.o
 have tM:=C (HM.o.put dh ny.o eo.o D2);have ma:=C dh;have BF:=C av;clear ar c1 c2 an av fh re cY dh;obtain ⟨ar,c1,c2,an,av,fh⟩:=vm D2;have af8:=C av;have ff:=C (fun (W:World) (k:I [] ak W) (i:Int)=> acL cS dH bR i n W (tM.o.ah k).kz tM.o.len tM.o.i64 dP.o);clear D2;refine rg (S:=fun w'=> w'.cell? ⟨g,0,none⟩=some (M cS bR.length dH)∧w'.cell? ⟨g,1,none⟩=some (H J a1)) (fun _ k=> ⟨k.c ar,k.c c1⟩) fun bM aF=> ?_;refine ag 0 ?_;refine ag 1 ?_;refine ag 2 ?_;refine ag 3 ?_;refine ag 4 ?_;refine ag 5 ?_;refine ag 6 ?_;refine ag 7 ?_;refine ag 8 ?_;refine ag 9 ?_;refine bh 10 fun ai af=> ?_;go_simp;refine Calls.mono (ff.o _ (I.refl [] ak).drew _) ?_;rintro e w2 ⟨k,je,HN,rfl,rfl⟩;have pP:=C je;have aeC:=C HN;clear je HN;refine af.out _ _ (⟨ar,c1⟩) (fun aF=> ?_);clear af ai;try go_frame
 refine ag 11 ?_;refine dR ?_;clear ar c1 c2 an av fh aF;go_wp2;go_ret;refine ⟨k,pP.o,aeC.o,rfl,tM.o.ah (I.refl [] ak).drew,ma.o.drew,fun v da=> ?_⟩;have h4:=BF.o;rw [da] at h4
 cases h4
 exact af8.o
def jW:Tree→List Int→Option Tree
 | t,[]=> some t
 | t,x::r=> if 0≤x∧x < t.kids.length then jW (t.kids.getD x.toNat .nil) r else none
end Go.Proofs.YtjnlkjlbejelgaaGreat
