/- Part of the proof. No condition: every lemma says its own. -/
import Derived.Test.YtjnlkjlbejelgaaGreatRSPas
namespace Go.Proofs.YtjnlkjlbejelgaaGreat
open Go.RowKit
open Go.Value renaming int→H,slice→M,bool→F
open Go.IntKind renaming i64→J
set_option maxRecDepth 100000
set_option maxHeartbeats 16000000
theorem Xr {d bd:Nat} (xA:zF d bd) (dB:d≤100) {w:World} {g:Nat} {cS dH bR uses lf} (h:kg w g cS dH bR uses lf) (Ah:3≤lf) (DT:lf≤1000):
  Calls Tryz.prog 109 #[.pointer (some ⟨g,0,none⟩),H J ((d:Int) + 1)] w (GN w g cS dH bR uses (tR lf d) (1 + bd)):=by
 have HM:=C h;have zq:=C (And.intro Ah DT);have Dd:=C xA;have vv:=C h.lt;clear xA Ah DT;obtain ⟨U,cd⟩:∃ U,U=w.heap.size:=⟨_,rfl⟩;obtain ⟨aE,cz⟩:∃ aE:World,aE=w.alloc cO:=⟨_,rfl⟩;have cq:I [] w aE:=by rw [cz];exact I.a1 _ _
 have aW:aE.heap[U]? =some cO:=by rw [cz,cd];exact heap_alloc_new w _
 have FJ:=h.ah cq;obtain ⟨at0,cp,h0,h1,aO⟩:=FJ.row;obtain ⟨ar,c1,c2,an,av,fh⟩:=vm aO;have aB:=C cd;have c7:=C cz;have aH:=C cq;have ba:=C aW;have BP:=C FJ;clear h cd cz cq aW FJ aO;go_enter Tryz.func109,Tryz.ntmps109
 go_upto_region 1 with fail
 rw [←c7.o,←aB.o];go_upto_region 2 with fail
 go_cut [24] (fun anA db=> ∃ b:Bool,anA=F b∧(b=false→cp≤3)∧(b=true→1≤cp)∧kg db g cS dH bR uses lf∧I [g] aE db∧db.cell? ⟨g,4,none⟩=some (H J cp))
 case first=>
  obtain rfl | rfl | rfl | rfl | rfl:cp=0∨cp=1∨cp=2∨cp=3∨cp=4:=by omega
  ·go_wp2;go_meet;exact ⟨false,rfl,by omega,(by intro h;cases h),BP.o,I.refl _ _,av⟩
  ·go_wp2_with fail
   refine Calls.mono (wb BP.o 9 (by omega)) ?_;rintro e w2 ⟨x,eD,mi,rfl,qD,hk2,sl⟩;have bq:=sl _ av;have tL:=C qD;have bQ:=C hk2;clear qD hk2 sl ar c1 c2 an av fh;obtain ⟨ae,hq⟩:∃ ae:Bool,(x==0)=ae:=⟨_,rfl⟩;go_wp2;go_meet;exact ⟨ae,rfl,by omega,by omega,tL.o,bQ.o,bq⟩
  ·go_wp2_with fail
   refine Calls.mono (wb BP.o 9 (by omega)) ?_;rintro e w2 ⟨x,eD,mi,rfl,qD,hk2,sl⟩;have bq:=sl _ av;have tL:=C qD;have bQ:=C hk2;clear qD hk2 sl ar c1 c2 an av fh;obtain ⟨ae,hq⟩:∃ ae:Bool,(x==0)=ae:=⟨_,rfl⟩;go_wp2;go_meet;exact ⟨ae,rfl,by omega,by omega,tL.o,bQ.o,bq⟩
  ·go_wp2_with fail
   refine Calls.mono (wb BP.o 9 (by omega)) ?_;rintro e w2 ⟨x,eD,mi,rfl,qD,hk2,sl⟩;have bq:=sl _ av;have tL:=C qD;have bQ:=C hk2;clear qD hk2 sl ar c1 c2 an av fh;obtain ⟨ae,hq⟩:∃ ae:Bool,(x==0)=ae:=⟨_,rfl⟩;go_wp2;go_meet;exact ⟨ae,rfl,by omega,by omega,tL.o,bQ.o,bq⟩
  ·go_wp2;go_meet;exact ⟨true,rfl,(by intro h;cases h),by omega,BP.o,I.refl _ _,av⟩
 case rest=>
 obtain ⟨b,rfl,yG,DI,hm,hk,sl⟩:=hcut;have mm:=C yG;have rY:=C DI;have MF:=C hm;have EL:=C hk;clear ar c1 c2 an av fh hm hk yG DI
 go_upto_if 24 with fail
 go_cut [5] (fun kh db=> ∃ n:Int,kh=H J n∧1≤n∧n≤4∧kg db g cS dH bR uses lf∧I [g] aE db)
 case first=>
  cases b with
  | false=>
   have h3:=mm.o rfl;go_wp2;go_meet;exact ⟨cp + 1,rfl,by omega,by omega,MF.o,EL.o⟩
  | true=>
   have h3:=rY.o rfl;obtain rfl | aQ:cp=1∨1 < cp:=by omega
   all_goals
    go_wp2_with fail
    refine Calls.mono (wb MF.o _ (by omega)) ?_;rintro e w3 ⟨y,oa,D9,rfl,Lm,aP,_⟩;have lx:=C Lm;have iX:=C (EL.o.trans aP);clear Lm aP;go_wp2;go_meet;exact ⟨1 + y,rfl,by omega,by omega,lx.o,iX.o⟩
 case rest=>
  obtain ⟨n,rfl,hB,FK,hm,hk⟩:=hcut;clear sl;have xu:=C hm;have iL:=C hk;clear hm hk h0 h1;go_upto_region 4 with fail
  go_cut [39] (fun aro db=> kg db g cS dH bR uses lf∧I [g] aE db)
  case first=>
   obtain ⟨vL,qy,xG,sh,gL⟩:=xu.o.row;obtain ⟨ar,c1,c2,an,av,fh⟩:=vm gL;have gN:=C gL;clear gL;obtain ⟨Eh,Ln⟩:∃ Eh,Eh=max qy n:=⟨_,rfl⟩;have VN:=C (show 0≤Eh∧Eh≤4 by omega);have HZ:∀ ak,ak=wc.setCell ⟨g,4,none⟩ (H J Eh)→kg ak g cS dH bR uses lf∧I [g] aE ak:=fun ak cY=> by
    have dh:I [g] wc ak:=by rw [cY];exact (I.refl [g] wc).setCell (p:=⟨g,4,none⟩) (.inl (by simp)) _
    have D2:ak.heap[g]? =some (.cells #[M cS bR.length dH,H J vL,H J uses,H J lf,H J Eh] 99 (0,0)):=by rw [cY];exact heap_setCell_same _ g 4 _ _ _ gN.o
    exact ⟨xu.o.put dh VN.o.1 VN.o.2 D2,iL.o.trans dh⟩
   have eg:=C HZ;clear HZ
   by_cases Fx:qy < n
   ·obtain rfl:Eh=n:=by omega
    clear Ln;go_wp2;go_meet
    first | exact eg.o _ rfl | exact eg.o _ (by rw [Int.max_eq_right (by omega)])
   ·obtain rfl:Eh=qy:=by omega
    clear Ln;go_wp2;go_meet
    first | exact eg.o _ rfl | exact eg.o _ (by rw [Int.max_eq_left (by omega)])
  case rest=>
  obtain ⟨ud,Bm⟩:=hcut;obtain ⟨ak,cY⟩:∃ ak,ak=wc:=⟨_,rfl⟩;have tM:=C ud;have ma:=C Bm;clear ud Bm;go_wp2_with fail
  refine Calls.mono (Dd.o _ g cS dH bR uses lf tM.o (by have:=zq.o;omega) zq.o.2) ?_;rintro e bS ⟨ja,x1,rfl,hW,uc,hk5,hf5,na,lC,DE⟩;have sD:=C DE;have qY:=C hW;have wC:=C uc;have sB:=C (show I [g] aE bS from ma.o.trans hk5);have qj:=C (show ∀ b∈ja.aw,aE.heap.size≤b from fun b ad=> Nat.le_trans ma.o.size (hf5 b ad));have qs:=C na;have mV:=C lC;obtain ⟨bW,cQ⟩:∃ bW,bW=ja:=⟨_,rfl⟩;rw [←cQ] at qY qj qs mV sD;have jo:=C cQ;obtain ⟨op2,cg,cf,bj,ct,kc2,a8,mn2,bY,bX,bn,bZ⟩:=ja;simp only [MRe.val];clear hW uc hk5 hf5 na lC cQ DE;have sm:=vv.o;have Kx:U + 1≤aE.heap.size:=by rw [c7.o,aB.o];simp
  have hne:U≠g:=by rw [aB.o];omega
  have eI:=(sB.o.alloc (bf op2 cg bj cf ct a8 kc2 mn2 bY bX bn bZ)).heap ba.o (by simp;exact hne);obtain ⟨z0,z1,z2,z3,z4,z5,b9,cc,cj⟩:=ew eI;obtain ⟨aY,cm,hm,hk,hfr⟩:=tq (op:=5) (set:=[]) (sa:=none) (sc:=0) (ka:=some ⟨bS.heap.size,0,none⟩) (kc:=1) (kids:=[bW]) (mn:=0) (mx:=0) (mode:=0) (n:=n) (neg:=false) HM.o (wC.o.ah (I.a1 bS (bf op2 cg bj cf ct a8 kc2 mn2 bY bX bn bZ))) (((aH.o.mono (S':=[g]) (by simp)).trans sB.o).alloc _) (Nat.le_of_eq aB.o.symm) eI (.hR (eK.nil _) (Ui qY.o _ (by rw [jo.o];rfl))) (fun b ad=> by
   have yM:=sB.o.size;have KM:=aB.o;simp only [MRe.aw,MRe.dN,List.mem_append,List.not_mem_nil,or_false] at ad
   rcases ad with h | h | h
   ·simp [df] at h
   ·simp [df] at h;subst h;omega
   ·have:=qj.o b h;omega)
  have eo:=C aY;have ey:=C cm;have fS:=C hm;have fT:=C hk;have mU:=C hfr;clear aY cm hm hk hfr eI sm Kx hne;go_wp2;refine mA eo.o ?_;exact ⟨_,x1,rfl,ey.o,fS.o,fT.o,mU.o,.mk (by
   show r5 5 [] 1 0 0 0 n false
   constructor <;> first | omega | (intro h;omega) | simp) (by intro k hk;simp only [MRe.al,List.mem_cons,List.not_mem_nil,or_false] at hk;subst hk;exact qs.o),by have:=mV.o;show 1 + 0 + (bW.ab.bm + 0)≤1 + bd;omega,O0 zq.o.1 sD.o⟩
theorem GK {P:Program} {hZ:Region.Mode} {s7:Array Oper} {fv:Exit→Act→World→Prop} {S S':World→Prop} (h:∀ w,S' w→S w):∀ {fuel:Nat} {hY:Array Bool} {a:Act} {w:World},wpAnyH P hZ s7 fv S' fuel hY a w→wpAnyH P hZ s7 fv S fuel hY a w
 | 0,_,_,_,H'=> H'
 | _ + 1,_,_,_,H'=> ⟨H'.1,fun i hi=> wpOp_mono (fun _ w' oW=> ⟨h w' oW.1,GK h oW.2⟩) (H'.2 i hi)⟩
theorem Nq {P:Program} {fv:Exit→Act→World→Prop} {hZ:Region.Mode} {S:World→Prop} {l r L8 amF:List Oper} {i j k:Nat} {jt wg ok:Oper} {fuel:Nat} {hY:Array Bool} {a:Act} {w:World}
  (dB:l.drop i=jt::r) (KT:l.drop j=wg::L8) (ajN:l.drop k=ok::amF) (aO:Region.ready hZ l.toArray hY=[i,j,k]) (h9:Region.wanted jt (yielded l.toArray a.tmps)=true) (i7:Region.wanted wg (yielded l.toArray a.tmps)=true) (jK:Region.wanted ok (yielded l.toArray a.tmps)=true)
  (h:∀ k9:Act→World→Prop,Shut (∀ a w,S w→(S w→wpAnyH P hZ l.toArray fv S fuel (hY.setIfInBounds i true) a w)→k9 a w)→Oper.wp P jt a w k9 fv)
  (oW:∀ k9:Act→World→Prop,Shut (∀ a w,S w→(S w→wpAnyH P hZ l.toArray fv S fuel (hY.setIfInBounds j true) a w)→k9 a w)→Oper.wp P wg a w k9 fv)
  (ajg:∀ k9:Act→World→Prop,Shut (∀ a w,S w→(S w→wpAnyH P hZ l.toArray fv S fuel (hY.setIfInBounds k true) a w)→k9 a w)→Oper.wp P ok a w k9 fv):
  wpAnyH P hZ l.toArray fv S (fuel + 1) hY a w:=
 wpAnyH_ready aO (by simp) (AllReadyH.cons (by rw [List.getElem?_toArray,←List.head?_drop,dB];rfl) (fun ai af=> by rw [if_pos h9];exact h ai af) (AllReadyH.cons (by rw [List.getElem?_toArray,←List.head?_drop,KT];rfl) (fun ai af=> by rw [if_pos i7];exact oW ai af) (AllReadyH.cons (by rw [List.getElem?_toArray,←List.head?_drop,ajN];rfl) (fun ai af=> by rw [if_pos jK];exact ajg ai af) AllReadyH.nil)))
theorem aie {P:Program} {fv:Exit→Act→World→Prop} {hZ:Region.Mode} {S:World→Prop} {l ju iz nR jj:List Oper} {i j k l':Nat} {jt wg ok ol:Oper} {fuel:Nat} {hY:Array Bool} {a:Act} {w:World}
  (d1:l.drop i=jt::ju) (d2:l.drop j=wg::iz) (bL:l.drop k=ok::nR) (bO:l.drop l'=ol::jj) (aO:Region.ready hZ l.toArray hY=[i,j,k,l']) (w1:Region.wanted jt (yielded l.toArray a.tmps)=true) (w2:Region.wanted wg (yielded l.toArray a.tmps)=true) (w3:Region.wanted ok (yielded l.toArray a.tmps)=true) (w4:Region.wanted ol (yielded l.toArray a.tmps)=true)
  (h1:∀ k9:Act→World→Prop,Shut (∀ a w,S w→(S w→wpAnyH P hZ l.toArray fv S fuel (hY.setIfInBounds i true) a w)→k9 a w)→Oper.wp P jt a w k9 fv)
  (h2:∀ k9:Act→World→Prop,Shut (∀ a w,S w→(S w→wpAnyH P hZ l.toArray fv S fuel (hY.setIfInBounds j true) a w)→k9 a w)→Oper.wp P wg a w k9 fv)
  (h3:∀ k9:Act→World→Prop,Shut (∀ a w,S w→(S w→wpAnyH P hZ l.toArray fv S fuel (hY.setIfInBounds k true) a w)→k9 a w)→Oper.wp P ok a w k9 fv)
  (h4:∀ k9:Act→World→Prop,Shut (∀ a w,S w→(S w→wpAnyH P hZ l.toArray fv S fuel (hY.setIfInBounds l' true) a w)→k9 a w)→Oper.wp P ol a w k9 fv):
  wpAnyH P hZ l.toArray fv S (fuel + 1) hY a w:=
 wpAnyH_ready aO (by simp) (AllReadyH.cons (by rw [List.getElem?_toArray,←List.head?_drop,d1];rfl) (fun ai af=> by rw [if_pos w1];exact h1 ai af) (AllReadyH.cons (by rw [List.getElem?_toArray,←List.head?_drop,d2];rfl) (fun ai af=> by rw [if_pos w2];exact h2 ai af) (AllReadyH.cons (by rw [List.getElem?_toArray,←List.head?_drop,bL];rfl) (fun ai af=> by rw [if_pos w3];exact h3 ai af) (AllReadyH.cons (by rw [List.getElem?_toArray,←List.head?_drop,bO];rfl) (fun ai af=> by rw [if_pos w4];exact h4 ai af) AllReadyH.nil))))
theorem acW (W:World) (fs:List Int) (T k:Nat) (h:k < fs.length):(W.alloc (.cells (fs.map (H J)).toArray T)).cell? ⟨W.heap.size,k,none⟩=some (H J (fs.getD k 0)):=by
 simp only [World.cell?];rw [heap_alloc_new W];simp [h,List.getD_eq_getElem?_getD]
theorem am3 {w1 ak:World} {g r T:Nat} {cS dH bR uses lf0 lf} (h0:kg w1 g cS dH bR uses lf0) (hm:kg ak g cS dH bR uses lf) (hk:I [g] w1 ak) (aO:w1.heap.size≤r) (aW:ak.heap[r]? =some (.cells #[H J 0,M none 0 0,M none 0 0,H J 0,H J 0,H J 0,H J 0,F false] T (0,0))) (mn mx x:Int):
  (hE ak r (H J 4) (M none 0 0) (M none 0 0) (H J mn) (H J mx) (H J x) (H J 0) (F false)).heap[r]? =some (.cells #[H J 4,M none 0 0,M none 0 0,H J mn,H J mx,H J x,H J 0,F false] T (0,0))∧
  kg (hE ak r (H J 4) (M none 0 0) (M none 0 0) (H J mn) (H J mx) (H J x) (H J 0) (F false)) g cS dH bR uses lf∧
  I [g] w1 (hE ak r (H J 4) (M none 0 0) (M none 0 0) (H J mn) (H J mx) (H J x) (H J 0) (F false)):=by
 have cU:=jv ak r (H J 4) (M none 0 0) (M none 0 0) (H J mn) (H J mx) (H J x) (H J 0) (F false);exact ⟨rm aW _ _ _ _ _ _ _ _,h0.LQ hm aO cU,hk.cn cU (by intro y hy;simp at hy;subst hy;exact .inr aO)⟩
theorem am4 {k:Nat} (hk:k < 12) {y:Int} (hy:0≤y∧y≤2):r5 4 [] 1 (([0,0,0,0,1,1,1,0,2,0,1,2]:List Int).getD k 0) (([-1,-1,-1,1,-1,-1,2,2,2,3,1,-1]:List Int).getD k 0) y 0 false:=by
 obtain rfl | rfl | rfl | rfl | rfl | rfl | rfl | rfl | rfl | rfl | rfl | rfl:k=0∨k=1∨k=2∨k=3∨k=4∨k=5∨k=6∨k=7∨k=8∨k=9∨k=10∨k=11:=by omega
 all_goals (constructor <;> first | omega | (intro h;omega) | (intro _;simp;omega) | simp)
theorem anM {w:World} {g T:Nat} {u0 u1 u2 u3 u4 u5 u6 u7:Value} (h:w.heap[g]? =some (.cells #[u0,u1,u2,u3,u4,u5,u6,u7] T (0,0))) (v0 v1 v2 v3 v4 v5 v6 v7:Value):(hE w g v0 v1 v2 v3 v4 v5 v6 v7).heap[g]? =some (.cells #[v0,v1,v2,v3,v4,v5,v6,v7] T (0,0)):=by
 have h0:(w.setCell ⟨g,0,none⟩ v0).heap[g]? =some (.cells #[v0,u1,u2,u3,u4,u5,u6,u7] T (0,0)):=heap_setCell_same _ g 0 _ T v0 h;have h1:((w.setCell ⟨g,0,none⟩ v0).setCell ⟨g,1,none⟩ v1).heap[g]? =some (.cells #[v0,v1,u2,u3,u4,u5,u6,u7] T (0,0)):=heap_setCell_same _ g 1 _ T v1 h0;have h2:(((w.setCell ⟨g,0,none⟩ v0).setCell ⟨g,1,none⟩ v1).setCell ⟨g,2,none⟩ v2).heap[g]? =some (.cells #[v0,v1,v2,u3,u4,u5,u6,u7] T (0,0)):=heap_setCell_same _ g 2 _ T v2 h1;have h3:((((w.setCell ⟨g,0,none⟩ v0).setCell ⟨g,1,none⟩ v1).setCell ⟨g,2,none⟩ v2).setCell ⟨g,3,none⟩ v3).heap[g]? =some (.cells #[v0,v1,v2,v3,u4,u5,u6,u7] T (0,0)):=heap_setCell_same _ g 3 _ T v3 h2;have h4:(((((w.setCell ⟨g,0,none⟩ v0).setCell ⟨g,1,none⟩ v1).setCell ⟨g,2,none⟩ v2).setCell ⟨g,3,none⟩ v3).setCell ⟨g,4,none⟩ v4).heap[g]? =some (.cells #[v0,v1,v2,v3,v4,u5,u6,u7] T (0,0)):=heap_setCell_same _ g 4 _ T v4 h3;have h5:((((((w.setCell ⟨g,0,none⟩ v0).setCell ⟨g,1,none⟩ v1).setCell ⟨g,2,none⟩ v2).setCell ⟨g,3,none⟩ v3).setCell ⟨g,4,none⟩ v4).setCell ⟨g,5,none⟩ v5).heap[g]? =some (.cells #[v0,v1,v2,v3,v4,v5,u6,u7] T (0,0)):=heap_setCell_same _ g 5 _ T v5 h4;have eW:(((((((w.setCell ⟨g,0,none⟩ v0).setCell ⟨g,1,none⟩ v1).setCell ⟨g,2,none⟩ v2).setCell ⟨g,3,none⟩ v3).setCell ⟨g,4,none⟩ v4).setCell ⟨g,5,none⟩ v5).setCell ⟨g,6,none⟩ v6).heap[g]? =some (.cells #[v0,v1,v2,v3,v4,v5,v6,u7] T (0,0)):=heap_setCell_same _ g 6 _ T v6 h5;have h7:((((((((w.setCell ⟨g,0,none⟩ v0).setCell ⟨g,1,none⟩ v1).setCell ⟨g,2,none⟩ v2).setCell ⟨g,3,none⟩ v3).setCell ⟨g,4,none⟩ v4).setCell ⟨g,5,none⟩ v5).setCell ⟨g,6,none⟩ v6).setCell ⟨g,7,none⟩ v7).heap[g]? =some (.cells #[v0,v1,v2,v3,v4,v5,v6,v7] T (0,0)):=heap_setCell_same _ g 7 _ T v7 eW;exact h7
theorem am2 {d bd:Nat} (xA:zF d bd) (dB:d≤100) (lC:3≤bd) {w:World} {g:Nat} {cS dH bR uses lf} (h:kg w g cS dH bR uses lf) (Ah:3≤lf) (DT:lf≤1000):
  Calls Tryz.prog 108 #[.pointer (some ⟨g,0,none⟩),H J ((d:Int) + 1)] w (GN w g cS dH bR uses (tR lf d) (1 + bd)):=by
 have HM:=C h;have zq:=C (And.intro Ah DT);have Dd:=C xA;have vv:=C h.lt;clear xA Ah DT;obtain ⟨U,cd⟩:∃ U,U=w.heap.size:=⟨_,rfl⟩;obtain ⟨aE,cz⟩:∃ aE:World,aE=w.alloc cO:=⟨_,rfl⟩;have cq:I [] w aE:=by rw [cz];exact I.a1 _ _
 have aW:aE.heap[U]? =some cO:=by rw [cz,cd];exact heap_alloc_new w _
 have BP:=C (h.ah cq);have aB:=C cd;have c7:=C cz;have aH:=C cq;have ba:=C aW;clear h cd cz cq aW;go_enter Tryz.func108,Tryz.ntmps108
 go_upto_region 1 with fail
 rw [←c7.o,←aB.o];go_wp2_with fail
 refine Calls.mono (wb BP.o 12 (by omega)) ?_;rintro e w1 ⟨k,je,Cu,rfl,hA,hk1,_⟩;have xu:=C hA;have iL:=C hk1;clear hA hk1;obtain ⟨rP,S9⟩:∃ rP:Nat,k=(rP:Int):=⟨k.toNat,by omega⟩;subst S9;have HN:rP < 12:=by omega
 have Cv:(rP:Int) < 12:=by omega
 obtain ⟨mn,Bp⟩:∃ mn,mn=([0,0,0,0,1,1,1,0,2,0,1,2]:List Int).getD rP 0:=⟨_,rfl⟩;obtain ⟨mx,Ai⟩:∃ mx,mx=([-1,-1,-1,1,-1,-1,2,2,2,3,1,-1]:List Int).getD rP 0:=⟨_,rfl⟩;have Ql:=C Bp;have Qp:=C Ai;have PZ:=C xu.o.lt;go_upto_region 2 with fail
 go_cut [6] (fun k7 db=> ∃ (r:Nat) (x:Int),k7=.pointer (some ⟨r,0,none⟩)∧0≤x∧x < 2∧db.heap[r]? =some (.cells #[H J 4,M none 0 0,M none 0 0,H J mn,H J mx,H J x,H J 0,F false] 26 (0,0))∧kg db g cS dH bR uses lf∧I [g] w1 db∧w1.heap.size≤r)
 case first=>
  clear Bp Ai;refine wp_region_held_drew (S:=fun _=> True) (by kernel_rfl) trivial (fun aF=> ?_);have hm:=C (xu.o.ah (I.refl [] w1).drew);have hk:=C ((I.refl [g] w1).drew);have Bp:=Ql.o;have Ai:=Qp.o
  generalize w1.drew=ak at hm hk aF ⊢
  refine ag 1 ?_;refine ag 5 ?_;refine ag 8 ?_;clear aF;clear Bp Ai;have Bp:=C Ql.o;have Ai:=C Qp.o
  iterate 4
   all_goals
    first
     | (guard_hyp p2;guard_hyp eD;guard_hyp gV;refine bh 0 fun ai af=> ?_)
     | (guard_hyp p1;guard_hyp eD;guard_hyp gV;refine bh 4 fun ai af=> ?_)
     | (guard_hyp p1;guard_hyp p2;guard_hyp gV;refine bh 9 fun ai af=> ?_)
     | (guard_hyp p1;guard_hyp p2;guard_hyp eD;refine bh 11 fun ai af=> ?_)
     | (guard_hyp eD;guard_hyp gV;refine kX 0 4 (fun ai af=> ?_) fun ai af=> ?_)
     | (guard_hyp p2;guard_hyp gV;refine kX 0 9 (fun ai af=> ?_) fun ai af=> ?_)
     | (guard_hyp p2;guard_hyp eD;refine kX 0 11 (fun ai af=> ?_) fun ai af=> ?_)
     | (guard_hyp p1;guard_hyp gV;refine kX 4 9 (fun ai af=> ?_) fun ai af=> ?_)
     | (guard_hyp p1;guard_hyp eD;refine kX 4 11 (fun ai af=> ?_) fun ai af=> ?_)
     | (guard_hyp p1;guard_hyp p2;refine kX 9 11 (fun ai af=> ?_) fun ai af=> ?_)
     | (guard_hyp gV;refine Nq (i:=0) (j:=4) (k:=9) rfl rfl rfl (by kernel_rfl) (by rfl) (by rfl) (by rfl) (fun ai af=> ?_) (fun ai af=> ?_) (fun ai af=> ?_))
     | (guard_hyp eD;refine Nq (i:=0) (j:=4) (k:=11) rfl rfl rfl (by kernel_rfl) (by rfl) (by rfl) (by rfl) (fun ai af=> ?_) (fun ai af=> ?_) (fun ai af=> ?_))
     | (guard_hyp p2;refine Nq (i:=0) (j:=9) (k:=11) rfl rfl rfl (by kernel_rfl) (by rfl) (by rfl) (by rfl) (fun ai af=> ?_) (fun ai af=> ?_) (fun ai af=> ?_))
     | (guard_hyp p1;refine Nq (i:=4) (j:=9) (k:=11) rfl rfl rfl (by kernel_rfl) (by rfl) (by rfl) (by rfl) (fun ai af=> ?_) (fun ai af=> ?_) (fun ai af=> ?_))
     | (refine aie (i:=0) (j:=4) (k:=9) (l':=11) rfl rfl rfl rfl (by kernel_rfl) (by rfl) (by rfl) (by rfl) (by rfl) (fun ai af=> ?_) (fun ai af=> ?_) (fun ai af=> ?_) (fun ai af=> ?_))
   all_goals go_simp
   all_goals
    try
     refine Calls.mono (wb hm.o 2 (by omega)) ?_;rintro e ak ⟨x,eD,mi,rfl,Z4,Ld,_⟩
     try have p1:=Ld.cell p1 (by simp;exact d1)
     try have p2:=Ld.cell p2 (by simp;exact d2)
     try have gV:=C (Ld.heap gV.o (by have:=aO.o;have:=PZ.o;simp;omega))
     have hk:=C (hk.o.trans Ld);have hm:=C Z4;clear Z4 Ld
     first
      | refine af.out _ _ ⟨p1,p2⟩ (fun _=> ?_)
      | refine af.out _ _ p1 (fun _=> ?_)
      | refine af.out _ _ p2 (fun _=> ?_)
      | refine af.out _ _ trivial (fun _=> ?_)
     clear af ai;try go_frame
     first
      | have aF:=And.intro p1 p2
      | have aF:=p1
      | have aF:=p2
      | have aF:=trivial
     try
      refine ag 10 ?_
     clear aF
   all_goals
    try
     have eY:=I.a1 ak (.cells #[H J 0,H J 0,H J 0,H J 0,H J 1,H J 1,H J 1,H J 0,H J 2,H J 0,H J 1,H J 2] 3);have ae:=acW ak [0,0,0,0,1,1,1,0,2,0,1,2] 3 rP (by simp;omega);rw [←Bp.o] at ae;have ae:(ak.alloc (.cells #[H J 0,H J 0,H J 0,H J 0,H J 1,H J 1,H J 1,H J 0,H J 2,H J 0,H J 1,H J 2] 3)).cell? ⟨ak.heap.size,rP,none⟩=some (H J mn):=ae
     try have p2:=eY.c p2
     try have aV:=(show ¬ ak.heap.size=pd from by have:=lt_of_block gV.o;omega)
     try have gV:=C (eY.h gV.o)
     have d1:¬ ak.heap.size=g:=by have:=hk.o.size;have:=PZ.o;omega
     have hm:=C (hm.o.ah eY);have je:=hk.o.size;have hk:=C (hk.o.alloc (.cells #[H J 0,H J 0,H J 0,H J 0,H J 1,H J 1,H J 1,H J 0,H J 2,H J 0,H J 1,H J 2] 3))
     first
      | refine af.out _ _ ⟨p1,p2⟩ (fun _=> ?_)
      | refine af.out _ _ p1 (fun _=> ?_)
      | refine af.out _ _ p2 (fun _=> ?_)
      | refine af.out _ _ trivial (fun _=> ?_)
     clear af ai;try go_frame
     obtain ⟨b1,gg⟩:∃ b,b=ak.heap.size:=⟨_,rfl⟩;rw [←gg] at ae d1 ⊢
     try rw [←gg] at aV
     clear gg je eY;obtain ⟨ak,jB⟩:∃ wN,wN=ak.alloc (.cells #[H J 0,H J 0,H J 0,H J 0,H J 1,H J 1,H J 1,H J 0,H J 2,H J 0,H J 1,H J 2] 3):=⟨_,rfl⟩;rw [←jB] at hm hk ae ⊢
     try rw [←jB] at p2
     try rw [←jB] at gV
     clear jB;have p1:=ae;clear ae
     first
      | refine GK (S':=fun w'=> w'.cell? ⟨b1,rP,none⟩=some (H J mn)∧w'.cell? ⟨b2,rP,none⟩=some (H J mx)) (fun w' h=> h.2) ?_
      | refine GK (S':=fun w'=> w'.cell? ⟨b1,rP,none⟩=some (H J mn)) (fun w' h=> trivial) ?_
     first
      | have aF:=And.intro p1 p2
      | have aF:=p1
      | have aF:=p2
      | have aF:=trivial
     refine ag 2 ?_;refine ag 3 ?_
     try
      refine ag 10 ?_
     clear aF
   all_goals
    try
     have eY:=I.a1 ak (.cells #[H J (-1),H J (-1),H J (-1),H J 1,H J (-1),H J (-1),H J 2,H J 2,H J 2,H J 3,H J 1,H J (-1)] 3);have ae:=acW ak [-1,-1,-1,1,-1,-1,2,2,2,3,1,-1] 3 rP (by simp;omega);rw [←Ai.o] at ae;have ae:(ak.alloc (.cells #[H J (-1),H J (-1),H J (-1),H J 1,H J (-1),H J (-1),H J 2,H J 2,H J 2,H J 3,H J 1,H J (-1)] 3)).cell? ⟨ak.heap.size,rP,none⟩=some (H J mx):=ae
     try have p1:=eY.c p1
     try have a6:=(show ¬ ak.heap.size=pd from by have:=lt_of_block gV.o;omega)
     try have gV:=C (eY.h gV.o)
     have d2:¬ ak.heap.size=g:=by have:=hk.o.size;have:=PZ.o;omega
     have hm:=C (hm.o.ah eY);have je:=hk.o.size;have hk:=C (hk.o.alloc (.cells #[H J (-1),H J (-1),H J (-1),H J 1,H J (-1),H J (-1),H J 2,H J 2,H J 2,H J 3,H J 1,H J (-1)] 3))
     first
      | refine af.out _ _ ⟨p1,p2⟩ (fun _=> ?_)
      | refine af.out _ _ p1 (fun _=> ?_)
      | refine af.out _ _ p2 (fun _=> ?_)
      | refine af.out _ _ trivial (fun _=> ?_)
     clear af ai;try go_frame
     obtain ⟨b2,iR⟩:∃ b,b=ak.heap.size:=⟨_,rfl⟩;rw [←iR] at ae d2 ⊢
     try rw [←iR] at a6
     clear iR je eY;obtain ⟨ak,jB⟩:∃ wN,wN=ak.alloc (.cells #[H J (-1),H J (-1),H J (-1),H J 1,H J (-1),H J (-1),H J 2,H J 2,H J 2,H J 3,H J 1,H J (-1)] 3):=⟨_,rfl⟩;rw [←jB] at hm hk ae ⊢
     try rw [←jB] at p1
     try rw [←jB] at gV
     clear jB;have p2:=ae;clear ae
     first
      | refine GK (S':=fun w'=> w'.cell? ⟨b1,rP,none⟩=some (H J mn)∧w'.cell? ⟨b2,rP,none⟩=some (H J mx)) (fun w' h=> h.1) ?_
      | refine GK (S':=fun w'=> w'.cell? ⟨b2,rP,none⟩=some (H J mx)) (fun w' h=> trivial) ?_
     first
      | have aF:=And.intro p1 p2
      | have aF:=p1
      | have aF:=p2
      | have aF:=trivial
     refine ag 6 ?_;refine ag 7 ?_
     try
      refine ag 10 ?_
     clear aF
   all_goals
    try
     have eY:=I.a1 ak cO
     try have aV:=(show ¬ b1=ak.heap.size from fun h2=> by have h:=World.block_lt_of_cell? _ _ p1;simp at h;omega)
     try have a6:=(show ¬ b2=ak.heap.size from fun h2=> by have h:=World.block_lt_of_cell? _ _ p2;simp at h;omega)
     try have p1:=eY.c p1
     try have p2:=eY.c p2
     have gV:=C (heap_alloc_new ak cO);have aO:=C hk.o.size;have hm:=C (hm.o.ah eY);have je:=hk.o.size;have hk:=C (hk.o.alloc cO)
     first
      | refine af.out _ _ ⟨p1,p2⟩ (fun _=> ?_)
      | refine af.out _ _ p1 (fun _=> ?_)
      | refine af.out _ _ p2 (fun _=> ?_)
      | refine af.out _ _ trivial (fun _=> ?_)
     clear af ai;try go_frame
     obtain ⟨pd,py⟩:∃ b,b=ak.heap.size:=⟨_,rfl⟩;rw [←py] at gV aO ⊢
     try rw [←py] at aV
     try rw [←py] at a6
     clear py je eY;obtain ⟨ak,jB⟩:∃ wN,wN=ak.alloc cO:=⟨_,rfl⟩;rw [←jB] at hm hk gV ⊢
     try rw [←jB] at p1
     try rw [←jB] at p2
     clear jB
  all_goals
   have aF:=And.intro p1 p2;obtain ⟨z0,z1,z2,z3,z4,z5,b9,cc,cj⟩:=ew gV.o;have bk:=C (jv ak pd (H J 4) (M none 0 0) (M none 0 0) (H J mn) (H J mx) (H J x) (H J 0) (F false));have EF:=C (am3 xu.o hm.o hk.o aO.o gV.o mn mx x);have aqS:=aO.o;refine bh 12 fun ai af=> ?_;go_simp;refine af.out _ _ (⟨bk.o.cell p1 (by simp;exact aV),bk.o.cell p2 (by simp;exact a6)⟩) (fun aF=> ?_);clear af ai;try go_frame
   refine dR ?_;go_wp2;go_meet;exact ⟨_,x,rfl,eD,mi,EF.o.1,EF.o.2.1,EF.o.2.2,aO.o⟩
 case rest=>
  obtain ⟨r,x,rfl,eD,mi,aO,hm,hk,kI⟩:=hcut;have tL:=C hm;have bQ:=C (iL.o.trans hk);have cw:=C aO;have oM:=C (Nat.le_trans iL.o.size kI);have hM:=C (And.intro eD mi);clear hm hk aO kI Bp Ai;go_upto_region 3 with fail
  go_cut [31] (fun anB db=> ∃ b:Bool,anB=F b∧db.heap[r]? =some (.cells #[H J 4,M none 0 0,M none 0 0,H J mn,H J mx,H J x,H J 0,F false] 26 (0,0))∧kg db g cS dH bR uses lf∧I [g] aE db)
  case first=>
   obtain ⟨vL,qy,xG,sh,gL⟩:=tL.o.row;obtain ⟨ar,c1,c2,an,av,fh⟩:=vm gL;clear gL
   by_cases cy:0 < bits BinOp.and IntKind.i64 uses 8
   ·go_wp2_with fail
    refine Calls.mono (wb tL.o 4 (by omega)) ?_;rintro e w3 ⟨z,dQ,fj,rfl,Lm,aP,_⟩;have hne:r≠g:=by have:=oM.o;have:=vv.o;have:=aH.o.size;omega
    have k2:=C (aP.heap cw.o (by simp;exact hne));have lx:=C Lm;have iX:=C (bQ.o.trans aP);clear Lm aP hne ar c1 c2 an av fh;obtain ⟨ae,hq⟩:∃ ae:Bool,(z==0)=ae:=⟨_,rfl⟩;go_wp2;go_meet;exact ⟨ae,rfl,k2.o,lx.o,iX.o⟩
   ·go_wp2;go_meet;exact ⟨false,rfl,cw.o,tL.o,bQ.o⟩
  case rest=>
  obtain ⟨b,rfl,aO,hm,hk⟩:=hcut;have k2:=C aO;have lx:=C hm;have iX:=C hk;clear hm hk aO
  go_upto_if 31 with fail
  go_cut [32] (fun ac9 db=> ∃ y:Int,0≤y∧y≤2∧db.heap[r]? =some (.cells #[H J 4,M none 0 0,M none 0 0,H J mn,H J mx,H J y,H J 0,F false] 26 (0,0))∧kg db g cS dH bR uses lf∧I [g] aE db)
  case first=>
   have sm:=vv.o;have kI:=oM.o;have F6:=aH.o.size;have hne:r≠g:=by omega
   have akU:=hM.o
   cases b with
   | false=>
    go_wp2;go_meet;exact ⟨x,by omega,by omega,k2.o,lx.o,iX.o⟩
   | true=>
    obtain ⟨bg,aV,a6,bl,bq,bE,bF,bH⟩:=eR k2.o;have tp:=h6 k2.o;go_wp2;go_meet;have dh:I [r] wc (wc.setCell ⟨r,5,none⟩ (H J 2)):=(I.refl [r] _).setCell (p:=⟨r,5,none⟩) (.inl (by simp)) _;exact ⟨2,by omega,by omega,heap_setCell_same _ r 5 _ _ _ k2.o,HM.o.LQ lx.o (by omega) dh,iX.o.cn dh (by intro ae hq;simp at hq;subst hq;exact .inr kI)⟩
  case rest=>
  obtain ⟨y,oa,Ic,aO,hm,hk⟩:=hcut;have oO:=C (And.intro oa Ic);have A2:=C aO;have BN:=C hm;have uF:=C hk;clear hm hk aO oa Ic;go_wp2_with fail
  refine Calls.mono (Dd.o _ g cS dH bR uses lf BN.o (by have:=zq.o;omega) zq.o.2) ?_;rintro e bS ⟨ja,x1,rfl,hW,uc,hk5,hf5,na,YW,DE⟩;have sD:=C DE;have qY:=C hW;have wC:=C uc;have sB:=C (show I [g] aE bS from uF.o.trans hk5);have qj:=C (show ∀ b∈ja.aw,aE.heap.size≤b∧b≠r from fun b ad=> ⟨Nat.le_trans uF.o.size (hf5 b ad),fun h=> by have:=hf5 b ad;have:=lt_of_block A2.o;omega⟩);have qs:=C na;have mV:=C YW;have hne:r≠g:=by have:=oM.o;have:=vv.o;have:=aH.o.size;omega
  have sE:=C (hk5.heap A2.o (by simp;exact hne));have C8:=C hne;have EO:=C (fun (W:World) (h:I [] bS W)=> CR ja W (hW.ah h) na.ae);obtain ⟨bW,cQ⟩:∃ bW,bW=ja:=⟨_,rfl⟩;rw [←cQ] at qY qj qs mV sD;have jo:=C cQ;obtain ⟨ae,hq⟩:∃ ae,ae=fA ja.ab:=⟨_,rfl⟩;simp only [←hq] at EO;obtain ⟨op2,cg,cf,bj,ct,kc2,a8,mn2,bY,bX,bn,bZ⟩:=ja;simp only [MRe.val] at EO ⊢;clear hW uc hk5 hf5 na YW cQ hq hne DE;go_upto_region 6 with fail
  go_cut [46] (fun anF db=> ∃ b:Bool,anF=F b∧I [] (bS.alloc (bf op2 cg bj cf ct a8 kc2 mn2 bY bX bn bZ)) db)
  case first=>
   obtain ⟨vL,qy,xG,sh,gL⟩:=(wC.o.ah (I.a1 bS (bf op2 cg bj cf ct a8 kc2 mn2 bY bX bn bZ))).row;obtain ⟨ar,c1,c2,an,av,fh⟩:=vm gL;obtain ⟨bg,aV,a6,bl,bq,bE,bF,bH⟩:=eR (heap_alloc_new bS (bf op2 cg bj cf ct a8 kc2 mn2 bY bX bn bZ));clear gL;have gN:=C (heap_alloc_new bS (bf op2 cg bj cf ct a8 kc2 mn2 bY bX bn bZ));obtain ⟨b2,cy⟩:∃ b2:Bool,(bits BinOp.and IntKind.i64 uses 32==0)=b2:=⟨_,rfl⟩
   cases b2 with
   | true=>
    go_wp2_with fail
    refine Calls.mono (EO.o _ (I.a1 bS _)) ?_;rintro e hG ⟨rfl,hV⟩;have yn:=C hV;clear hV ar c1 c2 an av fh bg aV a6 bl bq bE bF bH;go_wp2;go_meet;exact ⟨ae,rfl,yn.o⟩
   | false=>
    go_wp2;go_meet;exact ⟨false,rfl,I.refl _ _⟩
  case rest=>
  obtain ⟨b,rfl,hk⟩:=hcut;have kR:=C (show I [] bS wc from (I.a1 bS _).trans hk);have ME:=C (hk.heap (heap_alloc_new bS (bf op2 cg bj cf ct a8 kc2 mn2 bY bX bn bZ)) (by simp));clear hk;obtain ⟨fs,zP⟩:∃ fs,fs=bS.heap.size:=⟨_,rfl⟩;rw [←zP] at ME;have rz:=C zP;have GZ:=C (wC.o.ah kR.o);have yn:=C (sB.o.trans (kR.o.mono (S':=[g]) (by simp)));have yu:=C (kR.o.h sE.o);have BL:=C (show aE.heap.size≤fs∧fs≠r∧fs≠g by
   have h1:=sB.o.size;have h2:=lt_of_block sE.o;have h3:=wC.o.lt;rw [zP]
   omega)
  go_upto_if 46 with fail
  rw [←zP];clear zP
  go_cut [48] (fun ada db=> ∃ s:MRe,db.heap[fs]? =some (.cells s.row.toArray 26 (0,0))∧s.aK db∧kg db g cS dH bR uses x1∧I [g] aE db∧db.heap[r]? =some (.cells #[H J 4,M none 0 0,M none 0 0,H J mn,H J mx,H J y,H J 0,F false] 26 (0,0))∧s.ab.dE∧s.ab.bm≤bd∧(∀ b∈s.aw,aE.heap.size≤b∧b≠r∧b≠fs)∧Left lf d x1 s.ab)
  case first=>
   cases b with
   | false=>
    go_wp2;go_meet;exact ⟨bW,by rw [ME.o,jo.o];rfl,qY.o.ah kR.o,GZ.o,yn.o,yu.o,qs.o,mV.o,fun b ad=> ⟨(qj.o b ad).1,(qj.o b ad).2,fun h=> by have:=qY.o.fi b ad;have:=rz.o;omega⟩,sD.o⟩
   | true=>
    go_wp2_with fail
    refine Calls.mono (zf GZ.o) ?_;rintro e gW ⟨s,alp,rfl,gp,ij,h8,jJ,gY,ig,akB⟩;obtain ⟨rfl,CA,vZ⟩:=akB;have BY:=C (And.intro CA vZ);have Lk:=BL.o;have NI:=h8.heap ME.o (by simp;exact Lk.2.2);obtain ⟨bg,aV,a6,bl,bq,bE,bF,bH⟩:=eR NI;have tp:=h6 NI;have ae8:=C NI;have fx:=C gp;have jx:=C ij;have nn:=C h8;have iY:=C (show ∀ b∈s.aw,aE.heap.size≤b∧b≠r∧b≠fs from fun b ad=> by
     have h1:=jJ b ad;have h2:=lt_of_block ME.o;have h3:=lt_of_block yu.o
     omega)
    have eX:=C gY;have hL:=C ig;obtain ⟨c0,gh⟩:∃ c0,c0=s:=⟨_,rfl⟩;rw [←gh] at fx iY eX hL BY;have fg:=C gh;obtain ⟨op3,dk,dm,set3,di,dj,kids3,cA,cC,cB,cv,cx⟩:=s;simp only [MRe.val];clear NI gp ij h8 jJ gY ig gh CA vZ;go_wp2;go_meet;have cU:=jv gW fs (H J op3) (M dk set3.length dm) (M di kids3.length dj) (H J cA) (H J cC) (H J cB) (H J cv) (F cx);have F6:=aH.o.size;refine ⟨c0,by rw [fg.o];exact anM ae8.o _ _ _ _ _ _ _ _,fx.o.bG cU fun b ad=> by have:=(iY.o b ad).2.2;simp;omega,HM.o.LQ jx.o (by omega) cU,(yn.o.trans nn.o).cn cU (by intro ae hq;simp at hq;subst hq;exact .inr Lk.1),cU.heap (nn.o.heap yu.o (by simp;exact C8.o)) (by simp;omega),eX.o,by have:=hL.o;omega,iY.o,alg sD.o BY.o⟩
  case rest=>
  obtain ⟨s,rE,gp,hm,hk,aO,gY,ig,jJ,dF⟩:=hcut;have fp:=C dF;have fx:=C gp;have Qh:=C hm;have EM:=C hk;have eX:=C gY;have hL:=C ig;have iY:=C jJ;obtain ⟨c0,gh⟩:∃ c0,c0=s:=⟨_,rfl⟩;rw [←gh] at fx eX hL iY fp;have fg:=C gh;obtain ⟨e7,e8,e9,fa,e0,e1,e2,e3,e5,e4,eQ,e6⟩:=s;obtain ⟨bg,aV,a6,bl,bq,bE,bF,bH⟩:=eR (show wc.heap[fs]? =some (bf e7 e8 fa e9 e0 e2 e1 e3 e5 e4 eQ e6) from rE);have afK:=C (lt_of_block aO);have Oj:=(I.a1 wc (bf e7 e8 fa e9 e0 e2 e1 e3 e5 e4 eQ e6)).h aO;obtain ⟨ep,aJ,cP,eM,eF,eN,eO,eP⟩:=eR Oj;have vO:=h6 Oj;have A3:=C Oj;have afI:=C (heap_alloc_new wc (bf e7 e8 fa e9 e0 e2 e1 e3 e5 e4 eQ e6));clear rE gp hm hk aO gY ig jJ gh Oj dF;go_upto_region 9 with fail
  obtain ⟨ak,cY⟩:∃ ak,ak=(wc.alloc (bf e7 e8 fa e9 e0 e2 e1 e3 e5 e4 eQ e6)).setCell ⟨r,2,none⟩ (M (some ⟨wc.heap.size,0,none⟩) 1 1):=⟨_,rfl⟩;rw [←cY];have dh:I [r] (wc.alloc (bf e7 e8 fa e9 e0 e2 e1 e3 e5 e4 eQ e6)) ak:=by rw [cY];exact (I.refl [r] _).setCell (p:=⟨r,2,none⟩) (.inl (by simp)) _
  have YG:ak.heap[r]? =some (.cells #[H J 4,M none 0 0,M (some ⟨wc.heap.size,0,none⟩) 1 1,H J mn,H J mx,H J y,H J 0,F false] 26 (0,0)):=by rw [cY];exact heap_setCell_same _ r 2 _ _ _ A3.o
  obtain ⟨dv,dI,ea,fo,gO,ha,hb,hd⟩:=eR YG;have sm:=vv.o;have F6:=aH.o.size;have kI:=oM.o;have ajr:=EM.o.size;have KM:=aB.o;have Kx:U + 1≤aE.heap.size:=by rw [c7.o,aB.o];simp
  have akz:=lt_of_block A3.o;have Yq:wc.heap.size≠r:=by have:=afK.o;omega
  have As:ak.heap[U]? =some cO:=dh.heap ((I.a1 wc _).heap (EM.o.heap ba.o (by simp;omega)) (by simp)) (by simp;omega);obtain ⟨z0,z1,z2,z3,z4,z5,b9,cc,cj⟩:=ew As;have Kp:ak.heap[wc.heap.size]? =some (bf e7 e8 fa e9 e0 e2 e1 e3 e5 e4 eQ e6):=dh.heap afI.o (by simp;exact Yq);have F1:c0.aK ak:=(fx.o.ah (I.a1 wc _)).bG dh fun b ad=> by have:=(iY.o b ad).2.1;simp;omega
  have DX:MRe.aK ak (.node 4 none 0 [] (some ⟨wc.heap.size,0,none⟩) 1 [c0] mn mx y 0 false):=.hR (eK.nil _) ⟨hH.kq (kids:=[c0]) Kp (by rw [fg.o];simp [fX,MRe.row]) (by simp [maxLen]),fun x hx=> by
   simp only [List.mem_cons,List.not_mem_nil,or_false] at hx;subst hx;exact F1⟩
  obtain ⟨aY,cm,hm,hk,hfr⟩:=tq HM.o (HM.o.LQ (Qh.o.ah (I.a1 wc (bf e7 e8 fa e9 e0 e2 e1 e3 e5 e4 eQ e6))) (by omega) dh) (((aH.o.mono (S':=[g]) (by simp)).trans (EM.o.alloc _)).cn dh (by intro ae hq;simp at hq;subst hq;exact .inr (by omega))) (by omega) As DX (fun b ad=> by
   simp only [MRe.aw,MRe.dN,List.mem_append,List.not_mem_nil,or_false] at ad
   rcases ad with h | h | h
   ·simp [df] at h
   ·simp [df] at h;subst h;omega
   ·have:=(iY.o b h).1;omega)
  have eo:=C aY;have ey:=C cm;have fS:=C hm;have fT:=C hk;have mU:=C hfr;clear aY cm hm hk hfr cY dh YG As Kp F1 DX sm F6 kI ajr KM Kx akz Yq ep aJ cP eM eF eN eO eP vO bg aV a6 bl bq bE bF bH;go_wp2;refine mA eo.o ?_;exact ⟨_,_,rfl,ey.o,fS.o,fT.o,mU.o,.mk (by
   show r5 4 [] 1 mn mx y 0 false
   rw [Ql.o,Qp.o];exact am4 HN oO.o) (by intro k hk;simp only [MRe.al,List.mem_cons,List.not_mem_nil,or_false] at hk;subst hk;exact eX.o),by have:=hL.o;show 1 + 0 + (c0.ab.bm + 0)≤1 + bd;omega,O0 zq.o.1 fp.o⟩
theorem Uf {lf a1:Int} {d:Nat} {op n:Int} {neg:Bool} (b8:a1=lf - 1):Left lf d a1 (MRe.ab (.node op none 0 [] none 0 [] 0 0 0 n neg)):=by
 subst b8;refine ⟨?_,.inl (Int.le_refl _),?_⟩
 ·simp only [MRe.ab,MRe.al,dD,dV];omega
 ·simp only [MRe.ab,MRe.al,ev,eh];omega
theorem tR.so {lf a1:Int} {d:Nat} {my:Int} {t:Tree} (b8:a1=lf - 1) (h:tR a1 d my t):Left lf (d + 1) my t:=by subst b8;exact h.left
theorem uI.so {lf a1:Int} {d:Nat} {my:Int} {t:Tree} (b8:a1=lf - 1) (h:uI a1 my t):Left lf d my t:=by subst b8;exact h.left
theorem abC {a1 my:Int} {d:Nat} {ks:List MRe} {op:Int} {sa:Option Addr} {sc:Nat} {set:List (Int × Int)} {ka:Option Addr} {kc:Nat} {mn mx mode n:Int} {neg:Bool} (h1:(dV (MRe.al ks):Int)≤a1 - my) (h2:-(2 * (d:Int))≤my) (h3:eh (MRe.al ks)≤d + 1):tR a1 d my (MRe.ab (.node op sa sc set ka kc ks mn mx mode n neg)):=by
 refine ⟨?_,h2,?_⟩
 ·simp only [MRe.ab,dD];omega
 ·simp only [MRe.ab,ev];omega
theorem alq {a1 tB:Int} {d:Nat} {t:Tree} (p:Left a1 d tB t) (h:3≤a1) (h2:a1≤1000) (dB:d≤100):-1000≤tB∧tB≤1000:=by
 obtain ⟨p1,p2,_⟩:=p;omega
theorem aoF {a1 tB abL:Int} {d:Nat} {s t:MRe} {op:Int} {sa:Option Addr} {sc:Nat} {set:List (Int × Int)} {ka:Option Addr} {kc:Nat} {mn mx mode n:Int} {neg:Bool} (h:3≤a1) (p:Left a1 d tB s.ab) (ae:Left tB d abL t.ab):tR a1 d abL (MRe.ab (.node op sa sc set ka kc [s,t] mn mx mode n neg)):=by
 obtain ⟨p1,p2,jh⟩:=p;obtain ⟨q1,q2,kr⟩:=ae;refine ⟨?_,by omega,?_⟩
 ·simp only [MRe.ab,MRe.al,dD,dV];omega
 ·simp only [MRe.ab,MRe.al,ev,eh];omega
theorem aii {l:List MRe} {bd:Nat} (h:∀ x∈l,x.ab.bm≤bd):Tree.ed (MRe.al l)≤l.length * bd:=by
 induction l with
 | nil=> exact Nat.zero_le _
 | cons x r ih=>
  have h1:=h x (by simp);have h2:=ih (fun y hy=> h y (by simp [hy]))
  show x.ab.bm + Tree.ed (MRe.al r)≤(r.length + 1) * bd
  rw [Nat.succ_mul];omega
theorem ao2 {op mn mx mode n:Int} {neg:Bool} {kids:List MRe} (h:r5 op [] kids.length mn mx mode n neg) (hk:∀ x∈kids,x.ab.dE):Tree.dE (.node op [] (MRe.al kids) mn mx mode n neg):=
 .mk (by rw [MRe.ee];exact h) (fun t ht=> by
  rw [MRe.kP] at ht;obtain ⟨x,hx,rfl⟩:=List.mem_map.1 ht;exact hk x hx)
theorem adL (a:Option Nat) (n c:Nat):de a n c=M (a.map fun x=> ⟨x,0,none⟩) n c:=by cases a <;> rfl
theorem Dy {w ak:World} {g U T:Nat} {cS dH bR uses lf0 lf} {op n:Int} {neg:Bool} {ka:Option Addr} {kc:Nat} {kids:List MRe} {bd:Nat} {P:Int→Tree→Prop} (gm:P lf (MRe.ab (.node op none 0 [] ka kc kids 0 0 0 n neg))) (h0:kg w g cS dH bR uses lf0) (hm:kg ak g cS dH bR uses lf) (hk:I [g] w ak) (gA:U=w.heap.size)
  (aW:ak.heap[U]? =some (.cells #[H J 0,M none 0 0,M none 0 0,H J 0,H J 0,H J 0,H J 0,F false] T (0,0))) (ok:gT ak ka kc kids) (hfr:∀ b∈df kids.length ka ++ MRe.dN kids,U < b) (eC:r5 op [] kids.length 0 0 0 n neg) (jI:∀ x∈kids,x.ab.dE) (xQ:∀ x∈kids,x.ab.bm≤bd) (mK:kids.length≤3):
  (hE ak U (H J op) (M none 0 0) (M ka kids.length kc) (H J 0) (H J 0) (H J 0) (H J n) (F neg)).heap[U]? =some (.cells #[H J op,M none 0 0,M ka kids.length kc,H J 0,H J 0,H J 0,H J n,F neg] T (0,0))∧
  GN w g cS dH bR uses P (1 + 3 * bd) (.returned (.agg #[H J op,M none 0 0,M ka kids.length kc,H J 0,H J 0,H J 0,H J n,F neg])) (hE ak U (H J op) (M none 0 0) (M ka kids.length kc) (H J 0) (H J 0) (H J 0) (H J n) (F neg)):=by
 obtain ⟨aY,cm,hm,hk,hfr⟩:=tq (op:=op) (set:=[]) (sa:=none) (sc:=0) (ka:=ka) (kc:=kc) (kids:=kids) (mn:=0) (mx:=0) (mode:=0) (n:=n) (neg:=neg) h0 hm hk (Nat.le_of_eq gA.symm) aW (.hR (eK.nil _) ok) (fun b ad=> by
  have ad:b∈df kids.length ka ++ MRe.dN kids:=by simpa [MRe.aw,df] using ad
  have:=hfr b ad
  omega)
 refine ⟨aY,.node op none 0 [] ka kc kids 0 0 0 n neg,_,rfl,cm,hm,hk,hfr,ao2 eC jI,?_,gm⟩;have h1:=aii xQ;have h2:kids.length * bd≤3 * bd:=Nat.mul_le_mul_right bd mK
 show 1 + 0 + Tree.ed (MRe.al kids)≤_
 omega
end Go.Proofs.YtjnlkjlbejelgaaGreat
