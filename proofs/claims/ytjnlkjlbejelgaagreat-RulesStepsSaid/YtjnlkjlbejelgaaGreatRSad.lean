/- Part of the proof. No condition: every lemma says its own. -/
import Derived.Test.YtjnlkjlbejelgaaGreatRSPax
import Derived.Test.YtjnlkjlbejelgaaGreatRSac
namespace Go.Proofs.YtjnlkjlbejelgaaGreat
open Go.RowKit
open Go.Value renaming int→H,slice→M,bool→F
open Go.IntKind renaming i64→J
open Go.RowKit Go.Sort Go.BigFrame
set_option maxRecDepth 100000
set_option maxHeartbeats 16000000
theorem XK:∀ (l:List (Int × Int)) (i:Nat) (s:Int × Int),i < l.length→((gU l).set (i * 2) (H J s.1)).set (i * 2 + 1) (H J s.2)=gU (l.set i s)
 | [],i,s,h=> by simp at h
 | x::r,0,s,_=> by simp [gU]
 | x::r,i + 1,s,h=> by
  have ih:=XK r i s (by simpa using h);have e:gU (x::r)=H J x.1::H J x.2::gU r:=rfl;rw [e,show (i + 1) * 2=i * 2 + 2 by omega];simp only [List.set_cons_succ]
  show H J x.1::H J x.2::((gU r).set (i * 2) (H J s.1)).set (i * 2 + 1) (H J s.2)=_
  rw [ih]
  rfl
theorem Nt {w:World} {e g n c i:Nat} {l b7 U:List (Int × Int)} {s:Int × Int} (h:cr w e 2 (some g) n c (gU l)) (hl:l=b7 ++ s::U) (hi:b7.length=i):
  w.cell? ⟨g,i * 2,none⟩=some (H J s.1)∧w.cell? ⟨g,i * 2 + 1,none⟩=some (H J s.2):=by
 subst hl;subst hi;have aQ:b7.length < (b7 ++ s::U).length:=by simp
 obtain ⟨h1,h2⟩:=Kd (b7 ++ s::U) b7.length aQ;have hs:(b7 ++ s::U)[b7.length]=s:=by simp
 rw [hs] at h1 h2;obtain ⟨a1,a2⟩:=List.getElem?_eq_some_iff.1 h1;obtain ⟨b1,b2⟩:=List.getElem?_eq_some_iff.1 h2;exact ⟨by rw [h.cell _ a1,a2],by rw [h.cell _ b1,b2]⟩
theorem ado {w:World} {e g n c i:Nat} {b7 U:List (Int × Int)} {s t:Int × Int} (h:cr w e 2 (some g) n c (gU (b7 ++ s::U))) (hi:b7.length=i):
  cr ((w.setCell ⟨g,i * 2,none⟩ (H J t.1)).setCell ⟨g,i * 2 + 1,none⟩ (H J t.2)) e 2 (some g) n c (gU (b7 ++ t::U)):=by
 subst hi;have h2:=(h.GA (b7.length * 2) (H J t.1)).GA (b7.length * 2 + 1) (H J t.2);rw [XK _ _ t (by simp)] at h2
 simpa using h2
def ahg (w:World) (r:List (Int × Int)) (e:Ending) (w':World):Prop:=
 ∃ a c,e=.returned (de a r.length c)∧cr w' 86 2 a r.length c (gU r)∧I [] w w'∧∀ g,a=some g→w.heap.size≤g
theorem ak3 (m1 m2:MRe) (w:World) (aj:m1.aK w) (cV:m2.aK w) (l1:m1.ab.set.length≤1000) (l2:m2.ab.set.length≤1000) (ad:∀ s∈m1.ab.set ++ m2.ab.set,0≤s.1∧0≤s.2∧s.2≤1114111):
  Calls Tryz.prog 132 #[m1.val,m2.val] w (ahg w (vf (m1.ab.set ++ m2.ab.set) [])):=by
 obtain ⟨gq,kn,dQ,fj,eI⟩:=info_parts OD;have gH:=C kn;have gI:=C dQ;have gJ:=C fj;have gK:=C eI;clear kn dQ fj eI;obtain ⟨R,aY⟩:∃ R,R=vf (m1.ab.set ++ m2.ab.set) []:=⟨_,rfl⟩;rw [←aY];obtain ⟨op1,aM,aN,set1,aS,kc1,aq,mn1,aI,mode1,n1,aL⟩:=m1;obtain ⟨op2,cg,cf,bj,ct,kc2,a8,mn2,bY,bX,bn,bZ⟩:=m2;replace l1:set1.length≤1000:=l1;replace l2:bj.length≤1000:=l2;replace ad:∀ s∈set1 ++ bj,0≤s.1∧0≤s.2∧s.2≤1114111:=ad;replace aY:R=vf (set1 ++ bj) []:=aY;have aD:=C aY;have jE:=C ad;have afW:=C aj.nV;have Jv:=C cV.nV;simp only [MRe.val];clear aj cV aY ad;obtain ⟨U,aA,ar,c1,c2,an,av,ay,ax,az,bK,d1,d2,bL,bO,bT,bU,bV,dw,aB,aZ⟩:=nc w op1 aM aN set1 aS kc1 aq mn1 aI mode1 n1 aL op2 cg cf bj ct kc2 a8 mn2 bY bX bn bZ;obtain ⟨gy,rF⟩:∃ gy,gy=set1.length + bj.length:=⟨_,rfl⟩;have Kv:gy≤2000:=by omega
 have dP:=C rF;clear rF;go_enter Tryz.func132,Tryz.ntmps132
 go_upto_region 1 with fail
 rw [←dw.o,←aB.o];go_wp2
 go_cut [6] (fun k7 db=> ∃ (ak:World) (a:Option Nat) (c:Nat),ak=db∧k7=de a gy c∧cr ak 86 2 a gy c (gU (set1 ++ bj))∧I [] aA ak∧∀ g,a=some g→aA.heap.size≤g)
 case first=>
  refine rg (S:=fun w'=> w'.cell? ⟨U,1,none⟩=some (M aM set1.length aN)∧w'.cell? ⟨U + 1,1,none⟩=some (M cg bj.length cf)) (fun _ k=> ⟨k.c c1,k.c d1⟩) fun bM aF=> ?_;refine ag 1 ?_;refine ag 2 ?_;refine ag 4 ?_;refine ag 5 ?_;refine bh 0 fun ai af=> ?_;go_simp;have er:=C (((I.refl [] aA).drew).alloc (.cells #[] 86));refine af.out _ _ (bM.o _ er.o) fun aF=> ?_;clear af ai;try go_frame
  refine bh 3 fun ai af=> ?_;refine wh (.tmp 10) (.tmp 12) 23 rfl 86 gq _ 2 16 Tryz.underlying23 gH.o gI.o gJ.o gK.o rfl (by decide) (some aA.heap.size) 0 0 [] rfl (cr.empty aA.drew _ _) aM set1.length aN (gU set1) rfl (zL set1) ((afW.o.ah (aZ.o.trans er.o)).src) (Ke set1) (by omega) (by omega) ?_;intro a2 q2 w2 gn hk2 m4;rw [Nat.zero_add,List.nil_append] at gn;have r8:=C gn;have aU:=C (show I [] aA w2 from er.o.cn hk2 (by intro x hx;simp at hx;subst hx;exact .inr (Nat.le_refl _)));have Mt:=C (show ∀ g,a2=some g→aA.heap.size≤g by
   intro g hg
   rcases m4 with h | ⟨hv,h,h2⟩
   ·rw [hg] at h;cases h;exact Nat.le_refl _
   ·rw [hg] at h;cases h;simp at h2;omega)
  have aW:0 + set1.length=set1.length:=Nat.zero_add _;rw [aW];clear gn hk2 m4 aW;simp only [de];refine af.out _ _ (bM.o _ aU.o) fun aF=> ?_;clear af ai;try go_frame
  refine bh 6 fun ai af=> ?_;refine wh (.tmp 13) (.tmp 15) 23 rfl 86 gq _ 2 16 Tryz.underlying23 gH.o gI.o gJ.o gK.o rfl (by decide) a2 set1.length q2 _ rfl r8.o cg bj.length cf (gU bj) rfl (zL bj) ((Jv.o.ah (aZ.o.trans aU.o)).src) (Ke bj) (by omega) (by omega) ?_;intro a3 kr w3 kW aP zT;rw [←Dx,←dP.o] at kW;rw [←dP.o];have E2:=C kW;have aR:=C (show I [] aA w3 from aU.o.cn aP (by intro x hx;simp at hx;exact .inr (Mt.o x hx)));have IV:=C (show ∀ g,a3=some g→aA.heap.size≤g by
   intro g hg
   rcases zT with h | ⟨hv,h,h2⟩
   ·exact Mt.o g (by rw [←h,hg])
   ·rw [hg] at h;cases h;have:=aU.o.size;omega)
  clear kW aP zT;refine af.out _ _ (bM.o _ aR.o) fun aF=> ?_;clear af ai;try go_frame
  refine ag 7 ?_;refine dR ?_;go_wp2;go_meet;exact ⟨_,a3,kr,rfl,rfl,E2.o,aR.o,IV.o⟩
 case rest=>
  obtain ⟨ak,Cj,Fh,rfl,rfl,dd,dh,sm⟩:=hcut;have hU:=C dd;have dG:=C dh;have vv:=C sm;clear dd dh sm ar c1 c2 an av ay ax az bK d1 d2 bL bO bT bU bV;simp only [de];go_wp2
  go_loopw [5,7] (fun v i wr=> ∃ (dn IA out:List (Int × Int)) (ao:Option Nat) (Cb:Nat),i=H J dn.length∧dn.length + IA.length=gy∧v=de ao out.length Cb∧cr wr 86 2 Cj gy Fh (gU (dn ++ IA))∧cr wr 86 2 ao out.length Cb (gU out)∧vf IA out=R∧I [] aA wr∧(∀ g,ao=some g→aA.heap.size≤g∧Cj≠some g)∧(∀ s∈IA,0≤s.1∧0≤s.2∧s.2≤1114111)∧out.length≤dn.length∧(∀ z∈out,-10≤z.2∧z.2≤10000000)) (fun _ i _=> gy - (intOf i).toNat)
  case atStart=> exact ⟨[],set1 ++ bj,[],none,0,rfl,by rw [List.length_append,dP.o];simp,rfl,hU.o,cr.nil _ _ _,aD.o.symm,dG.o,by simp,jE.o,by simp,by simp⟩
  case round=>
   obtain ⟨dn,IA,out,ao,Cb,rfl,jC,rfl,dd,gp,c8,jI,hga,lC,DZ,Cx⟩:=hrel;have qp:=C dd;have fx:=C gp;have uE:=C c8;have jF:=C jI;have nj:=C hga;have mV:=C lC;have ES:=C DZ;have yq:=C Cx;clear dd gp c8 jI hga lC DZ Cx hU;obtain ⟨lK,yS⟩:∃ lK,lK=wr:=⟨_,rfl⟩;obtain ⟨i,hi⟩:∃ i,i=dn.length:=⟨_,rfl⟩;rw [←hi] at jC ES ⊢;have ff:=C hi;clear hi
   cases IA with
   | nil=>
    simp only [List.length_nil,Nat.add_zero] at jC;have Kq:out=R:=by have:=uE.o;rw [vf] at this;exact this
    subst Kq;have N4:¬ (i:Int) < (gy:Int):=by omega
    simp only [de];clear yS;go_wp2;go_ret;exact ⟨ao,Cb,rfl,fx.o,aZ.o.trans jF.o,fun g hg=> Nat.le_trans aZ.o.size (nj.o g hg).1⟩
   | cons x r=>
    simp only [List.length_cons] at jC;have N4:(i:Int) < (gy:Int):=by omega
    have kn:(0:Int)≤(i:Int):=by omega
    have aqv:i < gy:=by omega
    have mN:IntKind.i64.wrap ((i:Int) + 1)=(i:Int) + 1:=IntWalk.i64_in _ (by omega)
    cases Cj with
    | none=> exfalso;have:=qp.o.2.1;omega
    | some g=>
     simp only [de,Option.map_some];clear yS;go_wp2
     go_loopw [8] (fun kk qU=> ∃ (k:Nat) (y:Int × Int) (p ae:List (Int × Int)),kk=H J (k:Int)∧k=i + 1 + p.length∧p.length + ae.length=r.length∧cr qU 86 2 (some g) gy Fh (gU (dn ++ y::(p ++ ae)))∧cr qU 86 2 ao out.length Cb (gU out)∧lS x r=((lS y ae).1,p ++ (lS y ae).2)∧I [] aA qU) (fun kk _=> gy - (intOf kk).toNat)
     case atStart=> exact ⟨i + 1,x,[],r,by go_num,rfl,by simp,qp.o,fx.o,by simp,jF.o⟩
     case round=>
      clear qp fx jF;obtain ⟨k,y,p,ae,rfl,hk,aaw,dd,gp,aaN,n8⟩:=hrel;have qp:=C dd;have fx:=C gp;have MM:=C aaN;have r1:=C n8;clear dd gp aaN n8;have AY:=C hk
      cases ae with
      | nil=>
       have hk:=AY.o;simp only [List.append_nil] at qp;have gn:lS x r=(y,p):=by have:=MM.o;simpa [lS] using this
       simp only [List.length_nil,Nat.add_zero] at aaw;have Cv:¬ (k:Int) < (gy:Int):=by omega
       have Yt:vf p (qw out y)=R:=by have:=uE.o;rw [abo,gn] at this;exact this
       have hmem:=Pm x r;rw [gn] at hmem;have yT:0≤y.1∧0≤y.2∧y.2≤1114111:=mV.o y (by simpa using (hmem y).1 (.inl rfl));have FT:∀ s∈p,0≤s.1∧0≤s.2∧s.2≤1114111:=fun s hs=> mV.o s (by simpa using (hmem s).1 (.inr hs));have aam:=W8 (s:=y) yq.o (by omega);have akq:=Xa out y;have EK:=C Yt;have ys:=C FT;have ER:=C aam;have ET:=C (show (qw out y).length≤i + 1 by have:=ES.o;omega);obtain ⟨v0,v1⟩:=Nt qp.o rfl ff.o.symm;have Jt:=C (show cr wr 86 2 (some g) gy Fh (gU ((dn ++ [y]) ++ p)) by rw [List.append_assoc];exact qp.o);have Zo:=qp.o.lt;have VH:=C Zo;have ZS:(dn ++ [y]).length=i + 1:=by rw [List.length_append,←ff.o];rfl
       have BM:=C ZS;clear gn Yt hmem FT aam akq Zo ZS MM uE mV;obtain ⟨lL,lv⟩:=y;simp only at v0 v1 yT
       rcases List.eq_nil_or_concat out with rfl | ⟨ol,z,HX⟩
       ·rw [Nh] at EK ER ET;simp only [List.length_nil] at fx ⊢;go_upto_region 12 with fail
        refine wp_region_held_drew (S:=fun _=> True) (by kernel_rfl) trivial (fun aF=> ?_);refine ag 0 ?_;refine ag 1 ?_;refine ag 2 ?_;refine c9 3 ?_;refine c9 4 ?_;refine c9 5 ?_;refine c9 6 ?_;refine c9 7 ?_;refine c9 8 ?_;refine c9 9 ?_;refine c9 10 ?_;refine c9 11 ?_;refine c9 12 ?_;refine c9 13 ?_;refine c9 14 ?_;refine c9 15 ?_;refine ag 16 ?_;refine dR ?_;clear aF;have QF:=C (fx.o.ah (((I.refl [] wr).drew).alloc (.cells #[H J lL,H J lv] 86)) (by simp))
        go_wp2_with (at_builtin;refine tF rfl (.tmp 92) (.tmp 97) 23 rfl 86 gq _ 2 16 Tryz.underlying23 gH.o gI.o gJ.o gK.o rfl (by decide) ao 0 Cb _ rfl QF.o (some ⟨wr.heap.size,0,none⟩) 1 1 [H J lL,H J lv] rfl rfl (fun _=> ⟨_,rfl,wa wr.drew [H J lL,H J lv] 86⟩) (by intro u cy;simp at cy;rcases cy with rfl | rfl <;> rfl) (by omega) (by omega) ?hk)
        case hk=>
         intro a4 ml w4 lp bc yE;have zD:=C lp;have xn:=C (((I.refl [] wr).drew).alloc (.cells #[H J lL,H J lv] 86));have cl:=C (show I [] aA w4 from (r1.o.trans xn.o).cn bc (by intro x hx;simp at hx;exact .inr (nj.o x hx).1));have JL:=C ((Jt.o.ah xn.o (by simp)).ah bc (by intro hv ua hm;cases ua;simp at hm;exact (nj.o _ hm).2 rfl));have EA:=C (show ∀ hv,a4=some hv→aA.heap.size≤hv∧some g≠some hv by
          intro hv ua
          rcases yE with h | ⟨g2,h,h2⟩
          ·exact nj.o hv (by rw [←h,ua])
          ·rw [ua] at h;cases h;have h3:=r1.o.size;have h4:=VH.o
           try simp at h2
           exact ⟨by omega,by simp;omega⟩)
         clear lp bc yE v0 v1
         try simp only [de]
         go_wp2;go_roundw
         case rel=> exact ⟨dn ++ [(lL,lv)],p,[(lL,lv)],a4,ml,by rw [BM.o];go_num,by rw [BM.o];omega,rfl,JL.o,zD.o,EK.o,cl.o,EA.o,ys.o,by rw [BM.o];exact ET.o,ER.o⟩
         case measure=> simp [intOf];omega
       ·rw [List.concat_eq_append] at HX;subst HX
        cases ao with
        | none=> exfalso;have:=fx.o.2.1;simp at this
        | some go=>
         obtain ⟨u0,u1⟩:=Nt fx.o rfl rfl;have Bu:=yq.o z (by simp);have DN:=fx.o.fz;obtain ⟨Zq,Zp⟩:=nj.o go rfl;have S2:g≠go:=fun h=> Zp (by rw [h]);obtain ⟨n,hn⟩:∃ n,n=(ol ++ [z]).length:=⟨_,rfl⟩;have hB:ol.length=n - 1:=by rw [hn];simp
         have iC:0 < n:=by rw [hn];simp
         have N9:n≤2000:=by have:=ES.o;omega
         rw [←hn] at fx ⊢;rw [hB] at u1;have tO:=C hn;have r2:=C hB;obtain ⟨nf,zhi⟩:=z;simp only at u1 Bu;have akl:(0:Int) < (n:Int):=by omega
         have vd:IntKind.i64.wrap ((n:Int) - 1)=(n:Int) - 1:=IntWalk.i64_in _ (by omega);have aq6:IntKind.i64.wrap (zhi + 1)=zhi + 1:=IntWalk.i64_in _ (by omega);have gg:(1:Int)≤(n:Int):=by omega
         have iR:(n:Int) - 1 < (n:Int):=by omega
         have xJ:((n:Int) - 1).toNat=n - 1:=by omega
         clear hn hB u0 Zp;simp only [Option.map_some]
         by_cases fc:lL≤zhi + 1
         ·rw [JT ol (nf,zhi) (lL,lv) fc] at EK ER ET;go_upto_region 12 with fail
          refine rg (S:=fun w'=> w'.cell? ⟨g,i * 2,none⟩=some (H J lL)∧w'.cell? ⟨go,(n - 1) * 2 + 1,none⟩=some (H J zhi)) (fun _ k=> ⟨k.c v0,k.c u1⟩) fun bM aF=> ?_;refine ag 0 ?_;refine ag 1 ?_;refine ag 2 ?_;refine ag 3 ?_;refine ag 4 ?_;refine ag 5 ?_;refine ag 6 ?_;refine ag 7 ?_;refine ag 8 ?_;refine ag 9 ?_;refine ag 10 ?_;refine ag 11 ?_;refine ag 12 ?_;refine ag 13 ?_;refine ag 14 ?_;refine ag 15 ?_;refine ag 16 ?_;refine dR ?_;clear aF;go_upto_region 13 with fail
          refine rg (S:=fun w'=> w'.cell? ⟨g,i * 2 + 1,none⟩=some (H J lv)) (fun _ k=> k.c v1) fun bM aF=> ?_;refine ag 0 ?_;refine ag 1 ?_;refine ag 2 ?_;refine ag 3 ?_;refine ag 4 ?_;refine ag 5 ?_;refine ag 6 ?_;refine ag 7 ?_;refine ag 9 ?_;refine ag 10 ?_;refine ag 11 ?_;refine ag 12 ?_;refine ag 13 ?_;refine bh 8 fun ai af=> ?_;go_simp;refine af.out _ _ (v1) (fun aF=> ?_);clear af ai;try go_frame
          have e:((nf,zhi).1,max (nf,zhi).2 (lL,lv).2)=(nf,max zhi lv):=rfl;rw [e] at EK ER ET;have ln:I [go] wr (wr.setCell ⟨go,(n - 1) * 2 + 1,none⟩ (H J (max zhi lv))):=(I.refl [go] wr).setCell (p:=⟨go,(n - 1) * 2 + 1,none⟩) (.inl (by simp)) _;have bk:=C ln;clear e ln;refine ag 14 ?_;refine ag 15 ?_;refine ag 16 ?_;refine bh 17 fun ai af=> ?_;go_simp;refine af.out _ _ ((bk.o.drew.drew).cell v1 (by simp;exact S2)) (fun aF=> ?_);clear af ai;try go_frame
          refine dR ?_;have Lh:(ol ++ [(nf,max zhi lv)]).length=n:=by rw [tO.o];simp
          have Jk:=C Lh;have lp:=((fx.o.GA ((n - 1) * 2 + 1) (H J (max zhi lv))).drewN 1).drewN 1;rw [←r2.o,R1,r2.o] at lp;have zD:=C lp;have JL:=C (Jt.o.ah bk.o.drew.drew (by intro hv ua hm';cases ua;simp at hm';exact S2 hm'));have cl:=C (show I [] aA _ from r1.o.cn bk.o.drew.drew (by intro x hx;simp at hx;subst hx;exact .inr Zq));clear Lh lp v0 v1 u1 DN aF;go_wp2;go_roundw
          case rel=> exact ⟨dn ++ [(lL,lv)],p,ol ++ [(nf,max zhi lv)],some go,Cb,by rw [BM.o];go_num,by rw [BM.o];omega,by rw [Jk.o];rfl,JL.o,by rw [Jk.o];exact zD.o,EK.o,cl.o,nj.o,ys.o,by rw [BM.o];exact ET.o,ER.o⟩
          case measure=> simp [intOf];omega
         ·rw [JU ol (nf,zhi) (lL,lv) fc] at EK ER ET;go_upto_region 12 with fail
          refine rg (S:=fun w'=> w'.cell? ⟨g,i * 2,none⟩=some (H J lL)∧w'.cell? ⟨go,(n - 1) * 2 + 1,none⟩=some (H J zhi)) (fun _ k=> ⟨k.c v0,k.c u1⟩) fun bM aF=> ?_;refine ag 0 ?_;refine ag 1 ?_;refine ag 2 ?_;refine ag 3 ?_;refine ag 4 ?_;refine ag 5 ?_;refine ag 6 ?_;refine ag 7 ?_;refine ag 8 ?_;refine ag 9 ?_;refine ag 10 ?_;refine ag 11 ?_;refine ag 12 ?_;refine ag 13 ?_;refine ag 14 ?_;refine ag 15 ?_;refine ag 16 ?_;refine dR ?_;clear aF;have QF:=C (fx.o.ah (((I.refl [] wr).drew).alloc (.cells #[H J lL,H J lv] 86)) (by simp))
          go_wp2_with (at_builtin;refine tF rfl (.tmp 92) (.tmp 97) 23 rfl 86 gq _ 2 16 Tryz.underlying23 gH.o gI.o gJ.o gK.o rfl (by decide) (some go) n Cb _ rfl QF.o (some ⟨wr.heap.size,0,none⟩) 1 1 [H J lL,H J lv] rfl rfl (fun _=> ⟨_,rfl,wa wr.drew [H J lL,H J lv] 86⟩) (by intro u cy;simp at cy;rcases cy with rfl | rfl <;> rfl) (by omega) (by omega) ?hk)
          case hk=>
           intro a4 ml w4 lp bc yE;have lp:cr w4 86 2 a4 (n + 1) ml (gU ((ol ++ [(nf,zhi)]) ++ [(lL,lv)])):=by rw [Dx (ol ++ [(nf,zhi)])];exact lp
           have zD:=C lp;have xn:=C (((I.refl [] wr).drew).alloc (.cells #[H J lL,H J lv] 86));have cl:=C (show I [] aA w4 from (r1.o.trans xn.o).cn bc (by intro x hx;simp at hx;subst hx;exact .inr Zq));have JL:=C ((Jt.o.ah xn.o (by simp)).ah bc (by intro hv ua hm;cases ua;simp at hm;exact S2 hm));have EA:=C (show ∀ hv,a4=some hv→aA.heap.size≤hv∧some g≠some hv by
            intro hv ua
            rcases yE with h | ⟨g2,h,h2⟩
            ·exact nj.o hv (by rw [←h,ua])
            ·rw [ua] at h;cases h;have h3:=r1.o.size;have h4:=VH.o
             try simp at h2
             exact ⟨by omega,by simp;omega⟩)
           have Lh:((ol ++ [(nf,zhi)]) ++ [(lL,lv)]).length=n + 1:=by rw [List.length_append,←tO.o];rfl
           have Jk:=C Lh;clear lp bc yE v0 v1 u1 DN Lh
           try simp only [de]
           go_wp2;go_roundw
           case rel=> exact ⟨dn ++ [(lL,lv)],p,(ol ++ [(nf,zhi)]) ++ [(lL,lv)],a4,ml,by rw [BM.o];go_num,by rw [BM.o];omega,by rw [Jk.o],JL.o,by rw [Jk.o];exact zD.o,EK.o,cl.o,EA.o,ys.o,by rw [BM.o];exact ET.o,ER.o⟩
           case measure=> simp [intOf];omega
      | cons z q'=>
       simp only [List.length_cons] at aaw;have Cv:(k:Int) < (gy:Int):=by omega
       have S9:k < gy:=by omega
       have je:(0:Int)≤(k:Int):=by omega
       obtain ⟨v0,v1⟩:=Nt qp.o rfl ff.o.symm;have Tg:dn ++ y::(p ++ z::q')=(dn ++ y::p) ++ z::q':=by simp
       have Tf:(dn ++ y::p).length=k:=by rw [List.length_append,List.length_cons,←ff.o,AY.o];omega
       obtain ⟨u0,u1⟩:=Nt qp.o Tg Tf;have apg:=C Tg;have apf:=C Tf;have DN:=qp.o.fz;have ajV:=vv.o g rfl;obtain ⟨lL,lv⟩:=y;obtain ⟨nf,zhi⟩:=z;simp only at v0 v1 u0 u1;clear Tg Tf hk;go_wp2;refine rg (S:=fun w'=> w'.cell? ⟨g,i * 2,none⟩=some (H J lL)∧w'.cell? ⟨g,k * 2,none⟩=some (H J nf)) (fun _ k=> ⟨k.c v0,k.c u0⟩) fun bM aF=> ?_;refine ag 0 ?_;refine ag 1 ?_;refine ag 2 ?_;refine ag 3 ?_;refine ag 4 ?_;refine ag 5 ?_;refine ag 6 ?_;refine ag 7 ?_;refine ag 8 ?_;refine ag 9 ?_;refine ag 10 ?_;refine dR ?_;clear aF
       by_cases hc:nf < lL
       ·go_upto_region 10 with fail
        refine wp_region_held_drew (S:=fun _=> True) (by kernel_rfl) trivial (fun aF=> ?_);refine ag 0 ?_;refine ag 1 ?_;refine ag 2 ?_;refine ag 3 ?_;refine ag 4 ?_;refine ag 5 ?_;refine ag 6 ?_;refine ag 8 ?_;refine ag 9 ?_;refine ag 10 ?_;have Lv:lS x r=((lS (nf,zhi) q').1,(p ++ [(lL,lv)]) ++ (lS (nf,zhi) q').2):=by
         rw [MM.o];simp only [lS,if_pos hc,List.append_assoc,List.cons_append,List.nil_append]
        have MN:=C Lv;have gY:cr ((((wr.setCell ⟨g,i * 2,none⟩ (H J nf)).setCell ⟨g,i * 2 + 1,none⟩ (H J zhi)).setCell ⟨g,k * 2,none⟩ (H J lL)).setCell ⟨g,k * 2 + 1,none⟩ (H J lv)) 86 2 (some g) gy Fh (gU (dn ++ (nf,zhi)::((p ++ [(lL,lv)]) ++ q'))):=by
         have h1:=ado (t:=(nf,zhi)) qp.o ff.o.symm;have h2:dn ++ (nf,zhi)::(p ++ (nf,zhi)::q')=(dn ++ (nf,zhi)::p) ++ (nf,zhi)::q':=by simp
         rw [h2] at h1;have h3:=ado (i:=k) (t:=(lL,lv)) h1 (by rw [List.length_append,List.length_cons,←ff.o,AY.o];omega)
         simpa using h3
        have aaR:cr ((((wr.setCell ⟨g,i * 2,none⟩ (H J nf)).setCell ⟨g,i * 2 + 1,none⟩ (H J zhi)).setCell ⟨g,k * 2,none⟩ (H J lL)).setCell ⟨g,k * 2 + 1,none⟩ (H J lv)) 86 2 ao out.length Cb (gU out)∧I [] aA ((((wr.setCell ⟨g,i * 2,none⟩ (H J nf)).setCell ⟨g,i * 2 + 1,none⟩ (H J zhi)).setCell ⟨g,k * 2,none⟩ (H J lL)).setCell ⟨g,k * 2 + 1,none⟩ (H J lv)):=by
         have bc:I [g] wr ((((wr.setCell ⟨g,i * 2,none⟩ (H J nf)).setCell ⟨g,i * 2 + 1,none⟩ (H J zhi)).setCell ⟨g,k * 2,none⟩ (H J lL)).setCell ⟨g,k * 2 + 1,none⟩ (H J lv)):=((((I.refl [g] wr).setCell (.inl (by simp)) _).setCell (.inl (by simp)) _).setCell (.inl (by simp)) _).setCell (.inl (by simp)) _;exact ⟨fx.o.ah bc (by intro hv ua;have:=(nj.o hv ua).2;simp at this ⊢;exact fun h=> this h.symm),r1.o.cn bc (by intro x hx;simp at hx;subst hx;exact .inr ajV)⟩
        have eX:=C gY;have j3:=C aaR;have aj2:i < k:=by have:=AY.o;omega
        have hB:¬ i=k:=by omega
        have kV:¬ k=i:=by omega
        have Bq:¬ i * 2=k * 2 + 1:=by omega
        have FK:¬ i * 2 + 1=k * 2:=by omega
        have To:¬ k * 2=i * 2 + 1:=by omega
        have aqR:¬ k * 2 + 1=i * 2:=by omega
        clear Lv gY aaR;refine kX 7 11 (fun ai af=> ?_) fun ai af=> ?_
        ·go_simp;refine af.out _ _ (trivial) (fun aF=> ?_);clear af ai;try go_frame
         refine bh 11 fun ai af=> ?_;go_simp;refine af.out _ _ (trivial) (fun aF=> ?_);clear af ai;try go_frame
         refine ag 12 ?_;refine bh 13 fun ai af=> ?_;go_simp;refine af.out _ _ (trivial) (fun aF=> ?_);clear af ai;try go_frame
         refine ag 14 ?_;refine bh 15 fun ai af=> ?_;go_simp;refine af.out _ _ (trivial) (fun aF=> ?_);clear af ai;try go_frame
         refine dR ?_;clear v0 v1 u0 u1 DN aF;go_wp2;go_roundw
         case rel=> exact ⟨k + 1,(nf,zhi),p ++ [(lL,lv)],q',by go_num,by rw [List.length_append,AY.o];rfl,by simp;omega,eX.o.ah (S:=[]) ((I.refl [] _).drew.drew) (by simp),j3.o.1.ah (S:=[]) ((I.refl [] _).drew.drew) (by simp),MN.o,j3.o.2.drew.drew⟩
         case measure=> simp [intOf];omega
        ·go_simp;refine af.out _ _ (trivial) (fun aF=> ?_);clear af ai;try go_frame
         refine bh 7 fun ai af=> ?_;go_simp;refine af.out _ _ (trivial) (fun aF=> ?_);clear af ai;try go_frame
         refine ag 12 ?_;refine bh 13 fun ai af=> ?_;go_simp;refine af.out _ _ (trivial) (fun aF=> ?_);clear af ai;try go_frame
         refine ag 14 ?_;refine bh 15 fun ai af=> ?_;go_simp;refine af.out _ _ (trivial) (fun aF=> ?_);clear af ai;try go_frame
         refine dR ?_;clear v0 v1 u0 u1 DN aF;go_wp2;go_roundw
         case rel=> exact ⟨k + 1,(nf,zhi),p ++ [(lL,lv)],q',by go_num,by rw [List.length_append,AY.o];rfl,by simp;omega,eX.o.ah (S:=[]) ((I.refl [] _).drew.drew) (by simp),j3.o.1.ah (S:=[]) ((I.refl [] _).drew.drew) (by simp),MN.o,j3.o.2.drew.drew⟩
         case measure=> simp [intOf];omega
       ·have Lv:lS x r=((lS (lL,lv) q').1,(p ++ [(nf,zhi)]) ++ (lS (lL,lv) q').2):=by
         rw [MM.o];simp only [lS,if_neg hc,List.append_assoc,List.cons_append,List.nil_append]
        have MN:=C Lv;have Jt:=C (show cr wr.drew 86 2 (some g) gy Fh (gU (dn ++ (lL,lv)::((p ++ [(nf,zhi)]) ++ q'))) by
         have h:=qp.o.ah (S:=[]) ((I.refl [] wr).drew) (by simp)
         simpa using h)
        have afU:=C (fx.o.ah (S:=[]) ((I.refl [] wr).drew) (by simp));clear Lv v0 v1 u0 u1 DN;go_wp2;go_roundw
        case rel=> exact ⟨k + 1,(lL,lv),p ++ [(nf,zhi)],q',by go_num,by rw [List.length_append,AY.o];rfl,by simp;omega,Jt.o,afU.o,MN.o,r1.o.drew⟩
        case measure=> simp [intOf];omega
theorem LW {W:World} {T:Nat} {s:MRe} (h1:s.aK W) (cs:Array Value) (pt:cs.toList=s.row):gT (W.alloc (.cells cs T)) (some ⟨W.heap.size,0,none⟩) 1 [s]:=by
 refine ⟨hH.kq (kids:=[s]) (heap_alloc_new W _) (by rw [pt];simp [fX]) (by simp [maxLen]),fun x hx=> ?_⟩;simp only [List.mem_cons,List.not_mem_nil,or_false] at hx;subst hx;exact h1.ah (I.a1 _ _)
theorem XE (a b:Tree):iQ a b=iQ b a:=by
 rw [Bool.eq_iff_iff,J7,J7];exact eq_comm
theorem ang (m1 m2:MRe) (w:World) (aj:m1.aK w) (cV:m2.aK w) (cP:m2.ab.dE) (b1:m1.ab.bm≤100000) (b2:m2.ab.bm≤100000):
  Calls Tryz.prog 96 #[H J 11,m1.val,m2.val] w (lb w (m1.aw ++ m2.aw) (if y9 m1.ab m2.ab=true then some [Tree.node 4 [] [m1.ab] 1 (-1) 0 0 false] else none)):=by
 obtain ⟨R,aC⟩:∃ R,R=if y9 m1.ab m2.ab=true then some [Tree.node 4 [] [m1.ab] 1 (-1) 0 0 false] else none:=⟨_,rfl⟩;rw [←aC];obtain ⟨bW,cQ⟩:∃ bW,bW=m1:=⟨_,rfl⟩;obtain ⟨n0,iC⟩:∃ n0,n0=m2:=⟨_,rfl⟩;rw [←cQ] at aj b1 aC;rw [←iC] at cV cP b2 aC;have cW:=fun (W:World) (h:I [] w W)=> UP n0 bW W (cV.ah h) (aj.ah h) cP b2 b1;have gm:y9 bW.ab n0.ab=(oI n0.ab && iQ (tA n0.ab) bW.ab):=by unfold y9;rw [XE]
 obtain ⟨v,da⟩:∃ v,v=(oI n0.ab && iQ (tA n0.ab) bW.ab):=⟨_,rfl⟩;rw [gm,←da] at aC;simp only [←da] at cW;have agE:=C cQ;obtain ⟨op1,aM,aN,set1,aS,kc1,aq,mn1,aI,mode1,n1,aL⟩:=m1;obtain ⟨op2,cg,cf,bj,ct,kc2,a8,mn2,bY,bX,bn,bZ⟩:=m2;have s3:bW.val=.agg #[H J op1,M aM set1.length aN,M aS aq.length kc1,H J mn1,H J aI,H J mode1,H J n1,F aL]:=by rw [cQ];rfl
 have m9:n0.val=.agg #[H J op2,M cg bj.length cf,M ct a8.length kc2,H J mn2,H J bY,H J bX,H J bn,F bZ]:=by rw [iC];rfl
 simp only [s3,m9] at cW;have kS:=C (show ∀ x∈bW.aw,x∈(MRe.node op1 aM aN set1 aS kc1 aq mn1 aI mode1 n1 aL).aw ++ (MRe.node op2 cg cf bj ct kc2 a8 mn2 bY bX bn bZ).aw by rw [cQ];exact fun x hx=> List.mem_append_left _ hx);have A0:=C aj;have cW:=C cW;have dW:=C aC;simp only [MRe.val];clear aC gm da cQ iC s3 m9 aj cV cP b1 b2;obtain ⟨U,aA,ar,c1,c2,an,av,ay,ax,az,bK,d1,d2,bL,bO,bT,bU,bV,dw,aB,aZ⟩:=nc w op1 aM aN set1 aS kc1 aq mn1 aI mode1 n1 aL op2 cg cf bj ct kc2 a8 mn2 bY bX bn bZ
 cases v with
 | false=>
  have aD:=C (show R=none by rw [dW.o];simp);go_enter Tryz.func96,Tryz.ntmps96
  go_upto_region 1 with fail
  rw [←dw.o,←aB.o];go_upto_region 3 with fail
  go_cut [10] (fun iS db=> ∃ eG:Bool,iS=F eG∧aA=db)
  case first=>
   by_cases z2:op1=2
   ·by_cases z3:op2=2
    ·subst z2;subst z3;go_wp2;go_meet;exact ⟨_,rfl,rfl⟩
    ·have PB:(op2==2)=false:=by simpa using z3
     subst z2;go_wp2;go_meet;exact ⟨_,rfl,rfl⟩
   ·have PA:(op1==2)=false:=by simpa using z2
    go_wp2;go_meet;exact ⟨_,rfl,rfl⟩
  obtain ⟨eG,rfl,rfl⟩:=hcut;go_wp2_with fail
  refine Calls.mono (cW.o _ aZ.o) ?_;rintro e w3 ⟨rfl,aP⟩;have aR:=C (aZ.o.trans aP);clear aP;go_wp2
  go_ret2
  exact lb.dL aD.o rfl aR.o
 | true=>
  have aD:=C (show R=some [.node 4 [] [bW.ab] 1 (-1) 0 0 false] by rw [dW.o];simp);go_enter Tryz.func96,Tryz.ntmps96
  go_upto_region 1 with fail
  rw [←dw.o,←aB.o];go_upto_region 3 with fail
  go_cut [10] (fun iS db=> ∃ eG:Bool,iS=F eG∧aA=db)
  case first=>
   by_cases z2:op1=2
   ·by_cases z3:op2=2
    ·subst z2;subst z3;go_wp2;go_meet;exact ⟨_,rfl,rfl⟩
    ·have PB:(op2==2)=false:=by simpa using z3
     subst z2;go_wp2;go_meet;exact ⟨_,rfl,rfl⟩
   ·have PA:(op1==2)=false:=by simpa using z2
    go_wp2;go_meet;exact ⟨_,rfl,rfl⟩
  obtain ⟨eG,rfl,rfl⟩:=hcut;go_wp2_with fail
  refine Calls.mono (cW.o _ aZ.o) ?_;rintro e w3 ⟨rfl,aP⟩;have aR:=C (aZ.o.trans aP);obtain ⟨u0,u1,u2,u3,u4,u5,u6,u7⟩:=aP.au ar c1 c2 an av ay ax az;obtain ⟨v0,v1,v2,v3,v4,v5,v6,v7⟩:=aP.au bK d1 d2 bL bO bT bU bV;clear aP ar c1 c2 an av ay ax az bK d1 d2 bL bO bT bU bV;go_wp2
  go_ret2
  refine lb.iI (some ⟨w3.heap.size + 1,0,none⟩) (.node 4 none 0 [] (some ⟨w3.heap.size,0,none⟩) 1 [bW] 1 (-1) 0 0 false) aD.o rfl rfl (acq (W:=w3) (A0.o.ah aR.o) _ (by rw [agE.o];rfl)) (aR.o.trans (I.a2 _ _ _)) ?_;intro x hx;simp only [MRe.aw,MRe.dN,List.append_nil,List.mem_append] at hx
  rcases hx with h | h | h
  ·simp [df] at h
  ·simp [df] at h;subst h;exact .inr aR.o.size
  ·exact .inl (kS.o x h)
theorem anj (m1 m2:MRe) (w:World) (aj:m1.aK w) (cV:m2.aK w) (aJ:m1.ab.dE) (cP:m2.ab.dE):
  Calls Tryz.prog 96 #[H J 6,m1.val,m2.val] w (lb w (m1.aw ++ m2.aw) (if tc m1.ab m2.ab=true then some [Tree.node 1 (nv m1.ab.set m2.ab.set) [] 0 0 0 0 false] else none)):=by
 obtain ⟨R,aC⟩:∃ R,R=if tc m1.ab m2.ab=true then some [Tree.node 1 (nv m1.ab.set m2.ab.set) [] 0 0 0 0 false] else none:=⟨_,rfl⟩;rw [←aC];obtain ⟨bW,cQ⟩:∃ bW,bW=m1:=⟨_,rfl⟩;obtain ⟨n0,iC⟩:∃ n0,n0=m2:=⟨_,rfl⟩;rw [←cQ] at aj aJ aC;rw [←iC] at cV cP aC;have hA:=cQ;have hB:=iC;obtain ⟨op1,aM,aN,set1,aS,kc1,aq,mn1,aI,mode1,n1,aL⟩:=m1;obtain ⟨op2,cg,cf,bj,ct,kc2,a8,mn2,bY,bX,bn,bZ⟩:=m2;have gQ:bW.ab.set=set1:=by rw [cQ];rfl
 have gn:n0.ab.set=bj:=by rw [iC];rfl
 replace aC:R=if (op1==1 && (op2==1 && decide ((nv set1 bj).length≤64)))=true then some [.node 1 (nv set1 bj) [] 0 0 0 0 false] else none:=by rw [aC,tc,gQ,gn,cQ,iC];rfl
 have OX:r5 op1 set1 aq.length mn1 aI mode1 n1 aL:=by rw [cQ] at aJ;exact kB aJ
 have OY:r5 op2 bj a8.length mn2 bY bX bn bZ:=by rw [iC] at cP;exact kB cP
 simp only [MRe.val]
 by_cases h1:op1=1
 ·by_cases h2:op2=1
  ·obtain ⟨Iv,len1⟩:=OX.tx h1;obtain ⟨Uw,len2⟩:=OY.tx h2;have cy:nv set1 bj=vf (set1 ++ bj) []:=aoK Iv Uw;rw [cy,h1,h2] at aC;have lC:∀ s∈bW.ab.set ++ n0.ab.set,0≤s.1∧0≤s.2∧s.2≤1114111:=by
    rw [gQ,gn];intro s hs;have h3:∀ l,lZ l→s∈l→0≤s.1∧0≤s.2∧s.2≤1114111:=fun l hl hm=> by
     obtain ⟨i,hi,rfl⟩:=List.getElem_of_mem hm
     have:=hl.Fe i hi
     omega
    rcases List.mem_append.1 hs with h | h
    ·exact h3 _ Iv h
    ·exact h3 _ Uw h
   have uE:=fun (W:World) (h:I [] w W)=> ak3 bW n0 W (aj.ah h) (cV.ah h) (by rw [gQ];omega) (by rw [gn];omega) lC;rw [gQ,gn] at uE;obtain ⟨Dg,Kq⟩:∃ Dg,Dg=vf (set1 ++ bj) []:=⟨_,rfl⟩;rw [←Kq] at aC;simp only [←Kq] at uE;have s3:bW.val=.agg #[H J op1,M aM set1.length aN,M aS aq.length kc1,H J mn1,H J aI,H J mode1,H J n1,F aL]:=by rw [cQ];rfl
   have m9:n0.val=.agg #[H J op2,M cg bj.length cf,M ct a8.length kc2,H J mn2,H J bY,H J bX,H J bn,F bZ]:=by rw [iC];rfl
   simp only [s3,m9] at uE;have uE:=C uE;have dW:=C aC;obtain ⟨U,aA,ar,c1,c2,an,av,ay,ax,az,bK,d1,d2,bL,bO,bT,bU,bV,dw,aB,aZ⟩:=nc w op1 aM aN set1 aS kc1 aq mn1 aI mode1 n1 aL op2 cg cf bj ct kc2 a8 mn2 bY bX bn bZ;subst h1;subst h2;clear aC Kq cy lC gQ gn OX OY Iv Uw len1 len2 cQ iC hA hB s3 m9 aj cV aJ cP
   by_cases hl:Dg.length≤64
   ·have aD:=C (show R=some [.node 1 Dg [] 0 0 0 0 false] by rw [dW.o];simp [hl]);have N4:(Dg.length:Int)≤64:=by omega
    go_enter Tryz.func96,Tryz.ntmps96
    go_upto_region 1 with fail
    rw [←dw.o,←aB.o];go_upto_region 3 with fail
    go_cut [10] (fun iS db=> ∃ eG:Bool,iS=F eG∧aA=db)
    case first=>
     go_wp2;go_meet;exact ⟨_,rfl,rfl⟩
    obtain ⟨eG,rfl,rfl⟩:=hcut;go_wp2_with fail
    refine Calls.mono (uE.o _ aZ.o) ?_;rintro e w3 ⟨a3,kr,rfl,kW,aP,il⟩;have aR:=C (aZ.o.trans aP);obtain ⟨u0,u1,u2,u3,u4,u5,u6,u7⟩:=aP.au ar c1 c2 an av ay ax az;obtain ⟨v0,v1,v2,v3,v4,v5,v6,v7⟩:=aP.au bK d1 d2 bL bO bT bU bV;clear aP kW il ar c1 c2 an av ay ax az bK d1 d2 bL bO bT bU bV;simp only [de];go_wp2_with fail
    refine Calls.mono (uE.o _ aR.o) ?_;rintro e w4 ⟨a4,ml,rfl,lp,bc,hg4⟩;have cl:=C (aR.o.trans bc);have zD:=C (eK.we lp);have EA:=C (show ∀ g,a4=some g→w.heap.size≤g from fun g hg=> Nat.le_trans aR.o.size (hg4 g hg));clear bc lp hg4 u0 u1 u2 u3 u4 u5 u6 u7 v0 v1 v2 v3 v4 v5 v6 v7;simp only [de];go_wp2
    go_ret2
    refine lb.iI (some ⟨w4.heap.size,0,none⟩) (.node 1 (a4.map fun g=> ⟨g,0,none⟩) ml Dg none 0 [] 0 0 0 0 false) aD.o rfl rfl (LW (.hR zD.o (gT.nil _)) _ rfl) (cl.o.trans (I.a1 _ _)) ?_;intro x hx;simp only [MRe.aw,MRe.dN,List.append_nil,List.mem_append] at hx
    rcases hx with h | h
    ·exact .inr ((lV.zJ EA.o) x h)
    ·simp [df] at h
   ·have aD:=C (show R=none by rw [dW.o];simp [hl]);have N4:¬ (Dg.length:Int)≤64:=by omega
    have aqL:(64:Int) < (Dg.length:Int):=by omega
    go_enter Tryz.func96,Tryz.ntmps96
    go_upto_region 1 with fail
    rw [←dw.o,←aB.o];go_upto_region 3 with fail
    go_cut [10] (fun iS db=> ∃ eG:Bool,iS=F eG∧aA=db)
    case first=>
     go_wp2;go_meet;exact ⟨_,rfl,rfl⟩
    obtain ⟨eG,rfl,rfl⟩:=hcut;go_wp2_with fail
    refine Calls.mono (uE.o _ aZ.o) ?_;rintro e w3 ⟨a3,kr,rfl,kW,aP,il⟩;have aR:=C (aZ.o.trans aP);clear aP kW il;simp only [de];go_wp2
    go_ret2
    exact lb.dL aD.o rfl aR.o
  ·have ad:(op2==1)=false:=by simpa using h2
   have aD:=C (show R=none by rw [aC,ad];simp);clear aC gQ gn OX OY cQ iC hA hB aj cV aJ cP;obtain ⟨U,aA,ar,c1,c2,an,av,ay,ax,az,bK,d1,d2,bL,bO,bT,bU,bV,dw,aB,aZ⟩:=nc w op1 aM aN set1 aS kc1 aq mn1 aI mode1 n1 aL op2 cg cf bj ct kc2 a8 mn2 bY bX bn bZ;subst h1;go_enter Tryz.func96,Tryz.ntmps96
   go_upto_region 1 with fail
   rw [←dw.o,←aB.o];go_upto_region 3 with fail
   go_cut [10] (fun iS db=> ∃ eG:Bool,iS=F eG∧aA=db)
   case first=>
    go_wp2;go_meet;exact ⟨_,rfl,rfl⟩
   obtain ⟨eG,rfl,rfl⟩:=hcut;go_wp2
   go_ret2
   exact lb.dL aD.o rfl aZ.o
 ·have ad:(op1==1)=false:=by simpa using h1
  have aD:=C (show R=none by rw [aC,ad];simp);clear aC gQ gn OX OY cQ iC hA hB aj cV aJ cP;obtain ⟨U,aA,ar,c1,c2,an,av,ay,ax,az,bK,d1,d2,bL,bO,bT,bU,bV,dw,aB,aZ⟩:=nc w op1 aM aN set1 aS kc1 aq mn1 aI mode1 n1 aL op2 cg cf bj ct kc2 a8 mn2 bY bX bn bZ;go_enter Tryz.func96,Tryz.ntmps96
  go_upto_region 1 with fail
  rw [←dw.o,←aB.o];go_upto_region 3 with fail
  go_cut [10] (fun iS db=> ∃ eG:Bool,iS=F eG∧aA=db)
  case first=>
   by_cases z2:op1=2
   ·by_cases z3:op2=2
    ·subst z2;subst z3;go_wp2;go_meet;exact ⟨_,rfl,rfl⟩
    ·have PB:(op2==2)=false:=by simpa using z3
     subst z2;go_wp2;go_meet;exact ⟨_,rfl,rfl⟩
   ·have PA:(op1==2)=false:=by simpa using z2
    go_wp2;go_meet;exact ⟨_,rfl,rfl⟩
  obtain ⟨eG,rfl,rfl⟩:=hcut;go_wp2
  go_ret2
  exact lb.dL aD.o rfl aZ.o
end Go.Proofs.YtjnlkjlbejelgaaGreat
