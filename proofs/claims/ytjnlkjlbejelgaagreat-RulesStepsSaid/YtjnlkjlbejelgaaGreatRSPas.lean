/- Part of the proof. No condition: every lemma says its own. -/
import Derived.Maps.Own
import Derived.Maps.Views
import Derived.Test.YtjnlkjlbejelgaaGreatRSPar
namespace Go.Proofs.YtjnlkjlbejelgaaGreat
open Go.RowKit
open Go.Value renaming int→H,slice→M,bool→F
open Go.IntKind renaming i64→J
open Go.Maps (Keyed)
set_option maxRecDepth 100000
set_option maxHeartbeats 16000000
theorem aoU (S aG U T dJ:Nat) (cp top:Int) (ht:top≤2000000) (m:MRe):∀ (b o d s:Nat) (g:Bool) (w:World),fb w b o m→m.aK w→JP w S aG U T dJ cp top→pU w S s→sw w aG g→s≤256→1≤d→d≤25→S≠b→aG≠b→S ∉ m.aw→aG ∉ m.aw→
  Calls Tryz.prog 100 #[.pointer (some ⟨b,o,none⟩),H J d,.pointer (some ⟨S,0,none⟩),.pointer (some ⟨aG,0,none⟩),.pointer (some ⟨U,0,none⟩),.pointer (some ⟨T,0,none⟩),.pointer (some ⟨dJ,0,none⟩)] w (W1 S aG s d g (dD m.ab) (ev m.ab) (j2 cp top m.ab) w):=by
 induction m using MRe.nq with
 | h op sa sc set ka kc kids mn mx mode n neg ih=>
  intro b o d s g w h1 aj Bg hs hg D3 oX Y3 Sy Sk Sz Sl;have hcap:=aj.ch.cap;have fc:=aj.ch.le;unfold maxLen at hcap;obtain ⟨nb,hnb⟩:∃ v,v=Gl cp top (MRe.ab (.node op sa sc set ka kc kids mn mx mode n neg)):=⟨_,rfl⟩;have gj:=C (fun (W:World) (h:I [S,aG] w W)=> ahL (.node op sa sc set ka kc kids mn mx mode n neg) b o cp top W (h1.bG h (by simp [Ne.symm Sy,Ne.symm Sk])) (aj.bG h (by intro ae hq;simp only [List.mem_cons,List.not_mem_nil,or_false,not_or];exact ⟨fun h=> Sz (h ▸ hq),fun h=> Sl (h ▸ hq)⟩)) ht);rw [←hnb] at gj;have aW:dD (MRe.ab (.node op sa sc set ka kc kids mn mx mode n neg))=1 + dV (MRe.al kids):=by simp only [MRe.ab,dD]
  have wZ:ev (MRe.ab (.node op sa sc set ka kc kids mn mx mode n neg))=eh (MRe.al kids) + 1:=by simp only [MRe.ab,ev]
  have D7:j2 cp top (MRe.ab (.node op sa sc set ka kc kids mn mx mode n neg))=(nb && (MRe.al kids).all (j2 cp top)):=by rw [hnb,←Pz];simp only [MRe.ab,j2]
  have a2:=h1.node.c2;have ba:=C aW;have BG:=C wZ;have QN:=C D7;have I8:=C Bg;have iL:=C aj.kids;have ff:=C ih;have cW:=C hs;have fe:=C hg;have Vy:=C oX;have aeH:=C Y3;have Js:=C D3;have I6:=C (show S ∉ df kids.length ka ++ MRe.dN kids from fun h=> Sz (by simp only [MRe.aw,List.mem_append] at h ⊢;exact .inr h));have kt:=C (show aG ∉ df kids.length ka ++ MRe.dN kids from fun h=> Sl (by simp only [MRe.aw,List.mem_append] at h ⊢;exact .inr h));have mW:=C (show b ∉ [S,aG] by simp [Ne.symm Sy,Ne.symm Sk]);have G2:=C (show dJ ∉ [S,aG] by simp only [List.mem_cons,List.not_mem_nil,or_false,not_or];exact ⟨Ne.symm Bg.Up.2.2,Ne.symm Bg.Uo.2.2⟩);have MG:=C (show S ∉ [aG] by simp [Bg.Us]);have afl:=C (show aG ∉ [S] by simp [Ne.symm Bg.Us]);have n1:=hs.cell;have aJ:=hs.fz;have aq2:(s:Int)≤256:=by omega
  have gh:(0:Int)≤(s:Int):=by omega
  obtain ⟨z,Ig⟩:∃ z,z=dD (MRe.ab (.node op sa sc set ka kc kids mn mx mode n neg)):=⟨_,rfl⟩;obtain ⟨J6,SQ⟩:∃ z,z=ev (MRe.ab (.node op sa sc set ka kc kids mn mx mode n neg)):=⟨_,rfl⟩;obtain ⟨U6,TT⟩:∃ z,z=j2 cp top (MRe.ab (.node op sa sc set ka kc kids mn mx mode n neg)):=⟨_,rfl⟩
  show Calls _ _ _ _ (W1 S aG s d g (dD (MRe.ab (.node op sa sc set ka kc kids mn mx mode n neg))) (ev (MRe.ab (.node op sa sc set ka kc kids mn mx mode n neg))) (j2 cp top (MRe.ab (.node op sa sc set ka kc kids mn mx mode n neg))) w)
  rw [←Ig] at ba;rw [←SQ] at BG;rw [←TT] at QN;rw [←Ig,←SQ,←TT];clear ih h1 aj Bg hs hg oX Y3 D3 Sy Sk Sz Sl hnb aW wZ D7 Ig SQ TT;go_enter Tryz.func100,Tryz.ntmps100
  go_upto_region 2 with fail
  obtain ⟨aE,hX⟩:∃ aE,aE=w.setCell ⟨S,0,none⟩ (H J ((s:Int) + 1)):=⟨_,rfl⟩;rw [←hX];have tP:=C (show pU aE S (s + 1) by rw [hX];exact cW.o.set (s + 1));have aH:=C (show I [S] w aE by rw [hX];exact (I.refl [S] w).setCell (p:=⟨S,0,none⟩) (.inl (by simp)) _);have EH:=C (fe.o.ah aH.o afl.o);have My:=C (I8.o.ah aH.o (by simp));have bn:=tP.o.cell;have Jj:=C (aH.o.mono (S':=[S,aG]) (by simp));clear hX n1 aJ
  by_cases gg:256 < s + 1
  ·have zX:(256:Int) < (s:Int) + 1:=by omega
   go_wp2;go_ret;exact ⟨false,_,_,rfl,Jj.o,tP.o,EH.o,by simp,fun _=> .inl (by rw [ba.o];omega)⟩
  have zX:¬ (256:Int) < (s:Int) + 1:=by omega
  by_cases iR:24 < d
  ·have YT:(24:Int) < (d:Int):=by omega
   go_wp2;go_ret;exact ⟨false,_,_,rfl,Jj.o,tP.o,EH.o,by simp,fun _=> .inr (by rw [BG.o];omega)⟩
  have YT:¬ (24:Int) < (d:Int):=by omega
  go_upto_region 4 with fail
  have g1:=EH.o.cell;have XJ:=EH.o.fz;have aV:=My.o.cap;have a6:=My.o.adS
  go_cut [] (fun db=> ∃ W,W=db∧I [aG] aE W∧sw W aG (g && nb))
  case first=>
   cases g with
   | true=>
    go_wp2_with fail
    refine Calls.mono (gj.o aE Jj.o) ?_;rintro e w4 ⟨rfl,bc⟩;have QX:=C (EH.o.ah bc (by simp));have kx:=QX.o.cell;have eF:=QX.o.fz;have cl:=C (bc.mono (S':=[aG]) (by simp));clear bc g1 XJ aV a6;go_wp2;go_meet;exact ⟨_,rfl,cl.o.trans ((I.refl [aG] w4).setCell (p:=⟨aG,0,none⟩) (.inl (by simp)) _),QX.o.set _⟩
   | false=>
    go_wp2;go_meet;exact ⟨_,rfl,(I.refl [aG] aE).setCell (p:=⟨aG,0,none⟩) (.inl (by simp)) _,EH.o.set _⟩
  case rest=>
   obtain ⟨ak,rfl,dh,Zj⟩:=hcut;have aeZ:=C Zj;have EP:=C (tP.o.ah dh MG.o);have ma:=C (Jj.o.trans (dh.mono (S':=[S,aG]) (by simp)));have VA:=C (My.o.ah dh (by simp));have W6:=ma.o.cell a2 mW.o;have Vq:=C zX;have rY:=C iR;have mm:=C gg;clear dh Zj g1 XJ aV a6 bn a2 tP aH EH My fe I8 cW Jj zX YT gg iR gj;go_wp2
   go_loopw [32] (fun i wr=> ∃ k:Nat,k≤kids.length∧i=H J k∧∃ y g2,pU wr S y∧sw wr aG g2∧y=s + 1 + dV ((MRe.al kids).take k)∧y≤256∧d + eh ((MRe.al kids).take k)≤24∧g2=((g && nb) && ((MRe.al kids).take k).all (j2 cp top))∧I [S,aG] w wr∧I [S,aG] ak wr) (fun i _=> kids.length - (intOf i).toNat)
   case atStart=> exact ⟨0,Nat.zero_le _,rfl,_,_,EP.o,aeZ.o,by simp [dV],by have:=mm.o;omega,by have:=rY.o;simp [eh];omega,by simp,ma.o,I.refl _ _⟩
   case round=>
    obtain ⟨k,gC,rfl,y,g2,Od,sZ,hy,TX,ky,Bk,jI,Bm⟩:=hrel
    by_cases aQ:k < kids.length
    ·have lP:=iL.o.bG jI (by intro ae hq;simp only [List.mem_cons,List.not_mem_nil,or_false,not_or];exact ⟨fun h=> I6.o (h ▸ hq),fun h=> kt.o (h ▸ hq)⟩);obtain ⟨iw,off,rfl,ad,hx⟩:=lP.ch.dy (by omega);have Se:=VA.o.ah Bm (by simp);have dI:=Se.fn;have ea:=Bm.cell W6 mW.o;have km:=lP.all kids[k] (List.getElem_mem aQ);have YB:S≠iw:=fun h=> I6.o (List.mem_append_left _ (by unfold df;rw [if_neg (by omega)];simp [h]));have Yn:aG≠iw:=fun h=> kt.o (List.mem_append_left _ (by unfold df;rw [if_neg (by omega)];simp [h]));have YC:S ∉ kids[k].aw:=fun h=> I6.o (List.mem_append_right _ (MRe.mQ (List.getElem_mem aQ) h));have Yp:aG ∉ kids[k].aw:=fun h=> kt.o (List.mem_append_right _ (MRe.mQ (List.getElem_mem aQ) h));have iU:=C (fun (W:World) (h:I [] wr W)=> ff.o kids[k] (List.getElem_mem aQ) iw (off + k * 8) (d + 1) y g2 W ((hx k aQ).ah h) (km.ah h) (Se.ah h (by simp)) (Od.ah h (by simp)) (sZ.ah h (by simp)) TX (by omega) (by have:=rY.o;omega) YB Yn YC Yp);have Y4:((d + 1:Nat):Int)=(d:Int) + 1:=by omega
     rw [Y4] at iU;clear Y4;have i5:k < (MRe.al kids).length:=by rw [MRe.ee];exact aQ
     have gQ:=UT i5;have oX:=Xx i5;have re:=ahM (p:=j2 cp top) i5;have gn:=adw (MRe.al kids) (k + 1);have zZ:=aiC (MRe.al kids) (k + 1);rw [kQ kids k aQ] at gQ oX re;have gN:=C (show ∀ x7 hv,x7=y + dD kids[k].ab→y + dD kids[k].ab≤256→d + 1 + ev kids[k].ab≤25→hv=(g2 && j2 cp top kids[k].ab)→x7=s + 1 + dV ((MRe.al kids).take (k + 1))∧x7≤256∧d + eh ((MRe.al kids).take (k + 1))≤24∧hv=((g && nb) && ((MRe.al kids).take (k + 1)).all (j2 cp top)) from fun x7 hv q1 q2 kr ml=> ⟨by omega,by omega,by omega,by rw [ml,Bk,re,Bool.and_assoc]⟩);have cw:=C (show 256 < y + dD kids[k].ab∨25 < d + 1 + ev kids[k].ab→256 < s + z∨25 < d + J6 from fun ae=> by have:=ba.o;have:=BG.o;omega);have jF:=C jI;have ae7:=C Bm;have SR:IntKind.i64.wrap ((d:Int) + 1)=(d:Int) + 1:=IntWalk.i64_in _ (by have:=aeH.o;omega)
     generalize dD kids[k].ab=bM at *
     generalize ev kids[k].ab=kd at *
     generalize j2 cp top kids[k].ab=kw at *
     clear gQ oX re gn zZ km hx jI Bm lP Se YB Yn YC Yp Od sZ hy TX ky Bk ff i5 W6 ba BG VA;go_wp2;refine rg (S:=fun w'=> w'.cell? ⟨dJ,0,none⟩=some (.func (Fn.func 100) #[] #[.pointer (some ⟨S,0,none⟩),.pointer (some ⟨aG,0,none⟩),.pointer (some ⟨U,0,none⟩),.pointer (some ⟨T,0,none⟩),.pointer (some ⟨dJ,0,none⟩)])∧w'.cell? ⟨b,o + 2,none⟩=some (M (some ⟨iw,off,none⟩) kids.length kc)) (fun _ k=> ⟨k.c dI,k.c ea⟩) fun bM aF=> ?_;refine ag 0 ?_;refine ag 1 ?_;refine ag 2 ?_;refine ag 3 ?_;refine ag 4 ?_;refine ag 5 ?_;refine ag 6 ?_;refine ag 7 ?_;refine ag 8 ?_;refine bh 9 fun ai af=> ?_;go_simp
     go_at_call 100
     refine Calls.mono (iU.o _ ((I.refl [] wr).drew)) ?_;rintro e w3 ⟨r,lR,g3,rfl,aP,Bq,xJ,gL,p4⟩;have aR:=C ((((I.refl [] wr).drew).mono (S':=[S,aG]) (by simp)).trans aP);have He:=C Bq;have nZ:=C xJ;have agY:=C gL;have agZ:=C p4;have ao7:=C (aR.o.cell dI G2.o);clear aP Bq xJ gL p4 iU;refine af.out _ _ (⟨ao7.o,aR.o.cell ea mW.o⟩) (fun aF=> ?_);clear af ai;try go_frame
     refine ag 10 ?_;refine dR ?_
     cases r with
     | true=>
      obtain ⟨p1,p2,jh,ji⟩:=agY.o rfl;have P:=C (gN.o lR g3 p1 p2 jh ji);clear p1 p2 jh ji;go_wp2;go_roundw
      case rel=> exact ⟨k + 1,by omega,by go_num,lR,g3,He.o,nZ.o,P.o.1,P.o.2.1,P.o.2.2.1,P.o.2.2.2,jF.o.trans aR.o,ae7.o.trans aR.o⟩
      case measure=> simp [intOf];omega
     | false=>
      have P:=C (cw.o (agZ.o rfl));go_wp2;go_ret;exact ⟨false,_,_,rfl,jF.o.trans aR.o,He.o,nZ.o,by simp,fun _=> P.o⟩
    ·obtain rfl:k=kids.length:=by omega
     have Ag:(MRe.al kids).take kids.length=MRe.al kids:=List.take_of_length_le (by rw [MRe.ee];omega);rw [Ag] at hy ky Bk;have P:=C (show y=s + z∧s + z≤256∧d + J6≤25∧g2=(g && U6) from ⟨by rw [hy,ba.o];omega,by rw [ba.o];omega,by rw [BG.o];omega,by rw [Bk,QN.o,Bool.and_assoc]⟩);have jF:=C jI;have He:=C Od;have nZ:=C sZ;clear Od sZ hy ky Bk jI Bm TX ba BG QN;go_wp2;go_ret;exact ⟨true,_,_,rfl,jF.o,He.o,nZ.o,fun _=> P.o,by simp⟩
theorem pW.bG {S:List Nat} {w w':World} {a:Option Nat} {c:Nat} {rows:List kD} (h:pW w a c rows) (k:I S w w') (b8:∀ g,a=some g→g ∉ S) (hn:∀ r∈rows,∀ aX,r.bP=some aX→aX.block ∉ S):pW w' a c rows:=
 ⟨h.iJ.ah k b8,fun r aO=> ⟨(h.kz r aO).1.bG k (fun aX dC=> hn r aO aX dC),(h.kz r aO).2.1,fun aX dC=> ⟨Nat.lt_of_lt_of_le ((h.kz r aO).2.2 aX dC).1 k.size,((h.kz r aO).2.2 aX dC).2⟩⟩⟩
def wQ (P:Nat) (bP:Option Nat) (pc:Nat) (path:List Int) (a:Option Nat) (rows:List kD) (fs:List (List Int)) (w:World) (w':World):Prop:=
 ∃ (dZ:Option Nat) (c':Nat) (new:List kD),I (P::(a.toList ++ bP.toList)) w w'∧w'.heap[P]? =some (.cells #[de dZ (rows ++ new).length c'] 30 (0,0))∧pW w' dZ c' (rows ++ new)∧
  new.map kD.path=fs.map (path ++ ·)∧(∀ r∈new,∀ aX,r.bP=some aX→w.heap.size≤aX.block)∧(dZ=a∨∃ g,dZ=some g∧w.heap.size≤g)∧cr w' 3 1 bP path.length pc (path.map (H J))
structure Hj (n0 P dJ b:Nat) (Fc:List Nat) (bP a:Option Nat) (rows:List kD) (w:World):Prop where
 gm:P < n0
 lB:dJ < n0∧dJ≠P
 ad:b < n0∧b≠P
 hm:∀ x∈Fc,x < n0∧x≠P
 h9:n0≤w.heap.size
 b8:∀ g,a=some g→n0≤g
 qE:∀ g,bP=some g→n0≤g∧g < w.heap.size
 vT:∀ g,a=some g→bP≠some g
 aO:∀ r∈rows,∀ aX,r.bP=some aX→n0≤aX.block∧some aX.block≠bP
theorem wQ.first {n0 P dJ b:Nat} {Fc:List Nat} {bP a:Option Nat} {pc c c1 g:Nat} {path:List Int} {rows:List kD} {r:kD} {w w2 w3 w4:World} (h9:Hj n0 P dJ b Fc bP a rows w) (j7:pW w a c rows) (gm:w.heap[P]? =some (.cells #[de a rows.length c] 30 (0,0))) (dd:cr w 3 1 bP path.length pc (path.map (H J)))
  (cV:I [] w w2) (hQ:r.path=path) (px:hr w2 r.bP path) (kI:r.path.length≤r.pc) (hrf:∀ aX,r.bP=some aX→w.heap.size≤aX.block∧aX.block < w2.heap.size) (fk:I [] w2 w3) (lp:cr w4 22 1 (some g) (rows.length + 1) c1 (rows.map kD.v ++ [r.v])) (rO:I a.toList w3 w4) (hg:a=some g∨w3.heap.size≤g):
  (w4.cell? ⟨P,0,none⟩=some (de a rows.length c)∧w4.frozen? ⟨P,0,none⟩=false)∧wQ P bP pc path a rows [[]] w (w4.setCell ⟨P,0,none⟩ (de (some g) (rows.length + 1) c1)):=by
 have gn:=cV.size;have kW:=fk.size;have Ov:=h9.h9;have Su:=h9.gm;have ajx:P ∉ a.toList:=fun h=> by have:=h9.b8 P (by simpa using h);omega
 have Ss:=rO.heap ((cV.trans fk).h gm) ajx;have ajU:g≠P:=fun h=> by
  rcases hg with h1 | h1
  ·have:=h9.b8 g h1;omega
  ·omega
 have c3:I [P] w4 (w4.setCell ⟨P,0,none⟩ (de (some g) (rows.length + 1) c1)):=(I.refl [P] w4).setCell (p:=⟨P,0,none⟩) (.inl (by simp)) _;have Oi:=(j7.ah (cV.trans fk)).push (r:=r) (c':=c1) (g:=g) rO hg lp (by
   rw [hQ];refine (px.bG fk (fun _ _=> by simp)).bG rO (fun aX dC hm=> ?_);have h1:=(hrf aX dC).1;have h2:a=some aX.block:=by simpa using hm
   subst h2
   have:=j7.iJ.lt
   omega) kI (fun aX dC=> ⟨by have:=(hrf aX dC).2;omega,fun h=> by
    have h1:=(hrf aX dC).1;subst h
    have:=j7.iJ.lt
    omega⟩)
 have iH:I (P::a.toList) w w4:=((cV.trans fk).mono (S':=P::a.toList) (by simp)).cn rO (fun x hx=> .inl (List.mem_cons_of_mem _ hx));refine ⟨⟨by simp [World.cell?,Ss],by simp [World.frozen?,Ss]⟩,some g,c1,[r],?_,?_,?_,by simp [hQ],fun x hx aX dC=> by simp at hx;subst hx;exact (hrf aX dC).1,?_,?_⟩
 ·exact (iH.trans (c3.mono (by simp))).mono (by intro x hx;simp at hx ⊢;rcases hx with h | h;exact .inl (.inl h);exact .inl (.inr (.inl h)))
 ·rw [List.length_append];exact heap_setCell_same _ P 0 _ _ _ Ss
 ·refine Oi.bG c3 (fun x hx=> by cases hx;simpa using ajU) (fun x hx aX dC=> ?_)
  simp
  rcases List.mem_append.1 hx with h | h
  ·have:=(h9.aO x h aX dC).1;omega
  ·simp at h;subst h;have:=(hrf aX dC).1;omega
 ·rcases hg with h | h
  ·exact .inl h.symm
  ·exact .inr ⟨g,rfl,by omega⟩
 ·cases bP with
  | none=> exact ⟨dd.1,dd.2⟩
  | some p=>
   have hp:=h9.qE p rfl;refine ((dd.ah (cV.trans fk) (by simp)).ah rO (fun x hx hm=> ?_)).ah c3 (fun x hx=> ?_)
   ·cases hx;exact h9.vT p (by simpa using hm) rfl
   ·cases hx;simp;omega
def JO (w:World) (pS:Nat) (l:List Int):Prop:=
 ∃ iv:DataW Unit,Maps.IsMap iv∧w.ownsMap Tryz.prog 3 (plainElem Tryz.prog 4) pS l.length iv∧∀ x,(Lit.int .i64 x).wf=true→iv.atKey (Lit.int .i64 x) (.lit (Lit.bool false))=.lit (Lit.bool (decide (x∈l)))
theorem JO.ah {S:List Nat} {w w':World} {pS:Nat} {l:List Int} (h:JO w pS l) (k:I S w w') (DC:pS ∉ S):JO w' pS l:=by
 obtain ⟨iv,h1,⟨oy,ain,ad,td⟩,h3⟩:=h;exact ⟨iv,h1,⟨oy,ain,k.heap ad DC,td⟩,h3⟩
def JH (q5 pS:Nat) (a:Option Nat) (l fs:List Int) (s:Nat) (w w':World):Prop:=
 ∃ (dZ:Option Nat) (c':Nat) (l':List Int),I (q5::pS::a.toList) w w'∧w'.heap[q5]? =some (.cells #[de dZ l'.length c'] 22 (0,0))∧cr w' 3 1 dZ l'.length c' (l'.map (H J))∧JO w' pS l'∧
  (∀ x,x∈l'↔x∈l∨x∈fs)∧l'.length≤l.length + s∧(dZ=a∨∃ g,dZ=some g∧w.heap.size≤g)
theorem JH.push {n0 q5 pS g:Nat} {a:Option Nat} {c c1:Nat} {l:List Int} {x:Int} {w w2 w3 w4:World} (rF:q5 < n0) (DC:pS < n0∧pS≠q5) (iC:n0≤w.heap.size) (b8:∀ g,a=some g→n0≤g) (Oc:w.heap[q5]? =some (.cells #[de a l.length c] 22 (0,0)))
  (cV:I [pS] w w2) (hm:JO w2 pS (l ++ [x])) (fk:I [] w2 w3) (rO:I a.toList w3 w4) (hs:cr w4 3 1 (some g) (l.length + 1) c1 (l.map (H J) ++ [H J x])) (hg:a=some g∨w3.heap.size≤g):
  (w4.cell? ⟨q5,0,none⟩=some (de a l.length c)∧w4.frozen? ⟨q5,0,none⟩=false)∧JH q5 pS a l [x] 1 w (w4.setCell ⟨q5,0,none⟩ (de (some g) (l.length + 1) c1)):=by
 have h2:=cV.size;have h3:=fk.size;have ajw:q5 ∉ a.toList:=fun h=> by have:=b8 q5 (by simpa using h);omega
 have ajv:pS ∉ a.toList:=fun h=> by have:=b8 pS (by simpa using h);omega
 have FK:=rO.heap (fk.heap (cV.heap Oc (by simp;exact Ne.symm DC.2)) (by simp)) ajw;have c3:I [q5] w4 (w4.setCell ⟨q5,0,none⟩ (de (some g) (l.length + 1) c1)):=(I.refl [q5] w4).setCell (p:=⟨q5,0,none⟩) (.inl (by simp)) _;have S3:n0≤g:=by
  rcases hg with h | h
  ·exact b8 g h
  ·omega
 refine ⟨⟨by simp [World.cell?,FK],by simp [World.frozen?,FK]⟩,some g,c1,l ++ [x],?_,?_,?_,?_,fun y=> by simp,by simp,?_⟩
 ·refine (((cV.mono (S':=q5::pS::a.toList) (by simp)).cn fk (by simp)).cn rO (fun y hy=> .inl (by simp at hy ⊢;exact .inr (.inr hy)))).cn c3 (by simp)
 ·rw [List.length_append];exact heap_setCell_same _ q5 0 _ _ _ FK
 ·rw [List.length_append,List.map_append];exact hs.ah c3 (fun y hy=> by cases hy;simp;omega)
 ·exact ((hm.ah fk (by simp)).ah rO ajv).ah c3 (by simp;exact DC.2)
 ·rcases hg with h | h
  ·exact .inl h.symm
  ·exact .inr ⟨g,rfl,by omega⟩
theorem JH.trans {q5 pS:Nat} {a dZ:Option Nat} {l l' fs WH:List Int} {s x7:Nat} {w w1 w2:World} (k:I (q5::pS::a.toList) w w1) (hl:∀ x,x∈l'↔x∈l∨x∈fs) (hs:l'.length≤l.length + s) (b8:dZ=a∨∃ g,dZ=some g∧w.heap.size≤g) (h:JH q5 pS dZ l' WH x7 w1 w2):JH q5 pS a l (fs ++ WH) (s + x7) w w2:=by
 obtain ⟨b,c,m,cV,hn,dd,hm,hx,gn,ad⟩:=h;have cZ:=k.size;refine ⟨b,c,m,k.cn cV ?_,hn,dd,hm,fun x=> by rw [hx,hl];simp [or_assoc],by omega,?_⟩
 ·intro y hy;simp only [List.mem_cons,Option.mem_toList] at hy ⊢
  rcases hy with h | h | h
  ·exact .inl (.inl h)
  ·exact .inl (.inr (.inl h))
  ·rcases b8 with h1 | ⟨g,h1,h2⟩
   ·exact .inl (.inr (.inr (h1 ▸ h)))
   ·rw [h] at h1;cases h1;exact .inr h2
 ·rcases ad with h | ⟨g,h,h2⟩
  ·rw [h];exact b8
  ·exact .inr ⟨g,h,by omega⟩
def Left (lf:Int) (d:Nat) (my:Int) (t:Tree):Prop:=(dD t:Int)≤lf - my∧(lf - 1≤my∨2 - 2 * (d:Int)≤my)∧ev t≤d + 1
def tR (lf:Int) (d:Nat) (my:Int) (t:Tree):Prop:=(dD t:Int)≤1 + lf - my∧-(2 * (d:Int))≤my∧ev t≤d + 2
def uI (lf:Int) (my:Int) (t:Tree):Prop:=my=lf∧dD t=1∧ev t=1
theorem tR.left {lf:Int} {d:Nat} {my:Int} {t:Tree} (h:tR (lf - 1) d my t):Left lf (d + 1) my t:=by
 obtain ⟨h1,h2,h3⟩:=h;exact ⟨by omega,.inr (by omega),h3⟩
theorem uI.left {lf:Int} {d:Nat} {my:Int} {t:Tree} (h:uI (lf - 1) my t):Left lf d my t:=by
 obtain ⟨h1,h2,h3⟩:=h;exact ⟨by omega,.inl (by omega),by omega⟩
def GN (w:World) (g:Nat) (cS:Option Addr) (dH:Nat) (bR:List Int) (uses:Int) (P:Int→Tree→Prop) (bd:Nat) (e:Ending) (w':World):Prop:=
 ∃ (m:MRe) (my:Int),e=.returned m.val∧m.aK w'∧kg w' g cS dH bR uses my∧I [g] w w'∧lV w.heap.size m.aw∧m.ab.dE∧m.ab.bm≤bd∧P my m.ab
theorem Xd {w W:World} {l:List Obj} (h:W.heap.toList=w.heap.toList ++ l) (i:Nat):W.heap[w.heap.size + i]? =l[i]?:=by
 rw [←Array.getElem?_toList,h,List.getElem?_append_right (by simp)]
 simp
theorem kg.lt {w:World} {g:Nat} {cS dH bR uses lf} (h:kg w g cS dH bR uses lf):g < w.heap.size:=by
 obtain ⟨_,_,_,_,aO⟩:=h.row;exact lt_of_block aO
theorem kg.LQ {w ak wN:World} {g U:Nat} {cS dH bR uses lf0 lf} (h0:kg w g cS dH bR uses lf0) (h:kg ak g cS dH bR uses lf) (gA:w.heap.size≤U) (k:I [U] ak wN):kg wN g cS dH bR uses lf:=by
 obtain ⟨a,c,h1,h2,aO⟩:=h.row;have hg:=h0.lt;exact ⟨h.kz.Uc k (fun hp a b8=> by have:=(h0.AH hp a b8).1;simp;omega),h.len,h.i64,fun hp a b8=> ⟨Nat.lt_of_lt_of_le (h.AH hp a b8).1 k.size,(h.AH hp a b8).2⟩,a,c,h1,h2,k.heap aO (by simp;omega)⟩
theorem tq {w ak:World} {g U T:Nat} {cS dH bR uses lf0 lf} {op sa sc set ka kc kids mn mx mode n neg} (h0:kg w g cS dH bR uses lf0) (hm:kg ak g cS dH bR uses lf) (hk:I [g] w ak) (gA:w.heap.size≤U)
  (aW:ak.heap[U]? =some (.cells #[H J 0,M none 0 0,M none 0 0,H J 0,H J 0,H J 0,H J 0,F false] T (0,0))) (ok:MRe.aK ak (.node op sa sc set ka kc kids mn mx mode n neg)) (hfr:∀ b∈(MRe.aw (.node op sa sc set ka kc kids mn mx mode n neg)),w.heap.size≤b∧b≠U):
  (hE ak U (H J op) (M sa set.length sc) (M ka kids.length kc) (H J mn) (H J mx) (H J mode) (H J n) (F neg)).heap[U]? =some (.cells #[H J op,M sa set.length sc,M ka kids.length kc,H J mn,H J mx,H J mode,H J n,F neg] T (0,0))∧
  MRe.aK (hE ak U (H J op) (M sa set.length sc) (M ka kids.length kc) (H J mn) (H J mx) (H J mode) (H J n) (F neg)) (.node op sa sc set ka kc kids mn mx mode n neg)∧
  kg (hE ak U (H J op) (M sa set.length sc) (M ka kids.length kc) (H J mn) (H J mx) (H J mode) (H J n) (F neg)) g cS dH bR uses lf∧
  I [g] w (hE ak U (H J op) (M sa set.length sc) (M ka kids.length kc) (H J mn) (H J mx) (H J mode) (H J n) (F neg))∧
  lV w.heap.size (MRe.aw (.node op sa sc set ka kc kids mn mx mode n neg)):=by
 have cU:=jv ak U (H J op) (M sa set.length sc) (M ka kids.length kc) (H J mn) (H J mx) (H J mode) (H J n) (F neg);exact ⟨rm aW _ _ _ _ _ _ _ _,ok.bG cU fun b ad=> by have:=(hfr b ad).2;simp;omega,h0.LQ hm gA cU,hk.cn cU (by intro x hx;simp at hx;subst hx;exact .inr gA),fun b ad=> (hfr b ad).1⟩
def setRow:List Obj:=[.cells #[H J 0,M none 0 0,M none 0 0,H J 0,H J 0,H J 0,H J 0,F false] 26,
 .cells #[H J 97,H J 97] 86,.cells #[H J 98,H J 98] 86,.cells #[H J 97,H J 98] 86,.cells #[H J 99,H J 99] 86,.cells #[H J 97,H J 99] 86,
 .cells #[H J 0,H J 96,H J 98,H J 255] 86,.cells #[H J 10,H J 10,H J 97,H J 97] 86,.cells #[] 86]
def GB (U:Nat):Obj:=.cells #[M (some ⟨U + 1,0,none⟩) 1 1,M (some ⟨U + 2,0,none⟩) 1 1,M (some ⟨U + 3,0,none⟩) 1 1,M (some ⟨U + 4,0,none⟩) 1 1,M (some ⟨U + 5,0,none⟩) 1 1,M (some ⟨U + 6,0,none⟩) 2 2,M (some ⟨U + 7,0,none⟩) 2 2,M (some ⟨U + 8,0,none⟩) 0 0] 23
theorem anQ {w W ak:World} {g:Nat} (hg:g < w.heap.size) (h:W.heap.toList=w.heap.toList ++ (setRow ++ [GB w.heap.size])) (hk:I [g] W ak) (ae:Nat) (hq:ae < 8):
  ∃ sa set sc,ak.cell? ⟨w.heap.size + 9,ae,none⟩=some (M sa set.length sc)∧eK ak sa sc set∧lZ set∧set.length≤2∧∀ b∈df set.length sa,w.heap.size < b:=by
 have hh:∀ i o,(setRow ++ [GB w.heap.size])[i]? =some o→ak.heap[w.heap.size + i]? =some o:=fun i o ds=> hk.heap (by rw [Xd h,ds]) (by simp;omega);have lg:ak.heap[w.heap.size + 9]? =some (GB w.heap.size):=hh 9 _ rfl;have hc:∀ v,(match GB w.heap.size with | .cells cs _ _=> cs[ae]? | _=> none)=some v→ak.cell? ⟨w.heap.size + 9,ae,none⟩=some v:=fun v da=> by
  simp only [World.cell?,lg];exact da
 obtain rfl | rfl | rfl | rfl | rfl | rfl | rfl | rfl:ae=0∨ae=1∨ae=2∨ae=3∨ae=4∨ae=5∨ae=6∨ae=7:=by omega
 ·exact ⟨_,[(97,97)],1,hc _ rfl,eK.kq (set:=[(97,97)]) (hh 1 _ rfl) rfl (by simp [maxLen]),by simp [lZ],by simp,by simp [df]⟩
 ·exact ⟨_,[(98,98)],1,hc _ rfl,eK.kq (set:=[(98,98)]) (hh 2 _ rfl) rfl (by simp [maxLen]),by simp [lZ],by simp,by simp [df]⟩
 ·exact ⟨_,[(97,98)],1,hc _ rfl,eK.kq (set:=[(97,98)]) (hh 3 _ rfl) rfl (by simp [maxLen]),by simp [lZ],by simp,by simp [df]⟩
 ·exact ⟨_,[(99,99)],1,hc _ rfl,eK.kq (set:=[(99,99)]) (hh 4 _ rfl) rfl (by simp [maxLen]),by simp [lZ],by simp,by simp [df]⟩
 ·exact ⟨_,[(97,99)],1,hc _ rfl,eK.kq (set:=[(97,99)]) (hh 5 _ rfl) rfl (by simp [maxLen]),by simp [lZ],by simp,by simp [df]⟩
 ·exact ⟨_,[(0,96),(98,255)],2,hc _ rfl,eK.kq (set:=[(0,96),(98,255)]) (hh 6 _ rfl) rfl (by simp [maxLen]),by simp [lZ],by simp,by simp [df]⟩
 ·exact ⟨_,[(10,10),(97,97)],2,hc _ rfl,eK.kq (set:=[(10,10),(97,97)]) (hh 7 _ rfl) rfl (by simp [maxLen]),by simp [lZ],by simp,by simp [df]⟩
 ·exact ⟨_,[],0,hc _ rfl,eK.kq (set:=[]) (hh 8 _ rfl) rfl (by simp [maxLen]),by simp [lZ],by simp,by simp [df]⟩
theorem ald {op:Int} {set:List (Int × Int)} {n:Int} (h:r5 op set 0 0 0 0 n false):Tree.dE (.node op set [] 0 0 0 n false):=.mk h (by simp)
theorem alj {set:List (Int × Int)} (h:lZ set) (hl:set.length≤64):r5 1 set 0 0 0 0 0 false:=by
 constructor <;> first | omega | (intro h;omega) | (intro _;exact ⟨h,hl⟩) | simp
theorem zf {w:World} {g:Nat} {cS dH bR uses lf} (h:kg w g cS dH bR uses lf):
  Calls Tryz.prog 106 #[.pointer (some ⟨g,0,none⟩)] w (GN w g cS dH bR uses (uI lf) 3):=by
 have HM:=C h;clear h;go_enter Tryz.func106,Tryz.ntmps106
 go_wp2_with fail
 obtain ⟨W,kG⟩:∃ W:World,W=((((((((((w.alloc cO).alloc (.cells #[H J 97,H J 97] 86)).alloc (.cells #[H J 98,H J 98] 86)).alloc (.cells #[H J 97,H J 98] 86)).alloc (.cells #[H J 99,H J 99] 86)).alloc (.cells #[H J 97,H J 99] 86)).alloc
  (.cells #[H J 0,H J 96,H J 98,H J 255] 86)).alloc (.cells #[H J 10,H J 10,H J 97,H J 97] 86)).alloc (.cells #[] 86)).alloc (GB w.heap.size)):=⟨_,rfl⟩
 have hl:W.heap.toList=w.heap.toList ++ (setRow ++ [GB w.heap.size]):=by
  have e:∀ (w:World) (o:Obj),(w.alloc o).heap.toList=w.heap.toList ++ [o]:=fun w o=> by show (w.heap.push o).toList=_;simp
  rw [kG,e,e,e,e,e,e,e,e,e,e];simp [setRow]
 have xP:I [] w W:=by rw [kG];exact (I.a4 _ _ _ _ _).trans ((I.a4 _ _ _ _ _).trans (I.a2 _ _ _))
 have aW:W.heap[w.heap.size]? =some cO:=by have:=Xd hl 0;rw [Nat.add_zero] at this;rw [this];rfl
 have jG:=C hl;have jF:=C xP;have ba:=C aW;have apl:=C kG;clear hl xP aW;simp only [GB] at kG;simp only [Nat.add_assoc,Nat.reduceAdd];rw [←kG];obtain ⟨U,cd⟩:∃ U,U=w.heap.size:=⟨_,rfl⟩;rw [←cd];have aB:=C cd;clear kG cd;refine Calls.mono (wb (HM.o.ah jF.o) 15 (by omega)) ?_;rintro e w2 ⟨k,je,hk1,rfl,hm,hk,_⟩;obtain ⟨ae,hq⟩:∃ ae:Nat,k / 2=(ae:Int):=⟨(k / 2).toNat,by omega⟩;have Lq:ae < 8:=by omega
 obtain ⟨sa,set,sc,hc,hin,cm,jC,hfr⟩:=anQ HM.o.lt jG.o hk ae Lq;rw [←aB.o] at hc hfr;have eI:=hk.heap ba.o (by have:=HM.o.lt;simp;omega);rw [←aB.o] at eI;obtain ⟨z0,z1,z2,z3,z4,z5,b9,cc,cj⟩:=ew eI;have agq:=C eI;have tL:=C hm;have bQ:=C ((jF.o.mono (S':=[g]) (by simp)).trans hk);have k1:=C hin;have jq:=C cm;have GY:=C jC;have iP:=C hfr;have aqZ:(ae:Int) < 8:=by omega
 have bN:(0:Int)≤(ae:Int):=by omega
 clear hm hk hin cm jC hfr eI;go_wp2_with fail
 obtain ⟨aY,cm,hm,hk,hfr⟩:=tq (op:=1) (set:=set) (sa:=sa) (sc:=sc) (ka:=none) (kc:=0) (kids:=[]) (mn:=0) (mx:=0) (mode:=0) (n:=0) (neg:=false) HM.o tL.o bQ.o (Nat.le_of_eq aB.o.symm) agq.o (.hR k1.o (gT.nil _)) (fun b ad=> by
  have ad:b∈df set.length sa:=by simpa [MRe.aw,MRe.dN,df] using ad
  have:=iP.o b ad
  have:=aB.o
  omega)
 refine mA aY ?_;exact ⟨_,_,rfl,cm,hm,hk,hfr,ald (alj jq.o (by have:=GY.o;omega)),by have:=GY.o;show 1 + set.length + 0≤3;omega,rfl,rfl,rfl⟩
def zF (d:Nat) (bd:Nat):Prop:=∀ (w:World) (g:Nat) (cS:Option Addr) (dH:Nat) (bR:List Int) (uses lf:Int),kg w g cS dH bR uses lf→-1000≤lf→lf≤1000→
 Calls Tryz.prog 73 #[.pointer (some ⟨g,0,none⟩),H J (d:Int)] w (GN w g cS dH bR uses (Left lf d) bd)
def agB (w:World) (g:Nat) (cS:Option Addr) (dH:Nat) (bR:List Int) (uses lf:Int) (d:Nat) (bd:Nat) (e:Ending) (w':World):Prop:=
 ∃ (a:Option Nat) (c:Nat) (ks:List MRe) (my:Int),e=.returned (de a ks.length c)∧2≤ks.length∧ks.length≤3∧gT w' (a.map fun x=> ⟨x,0,none⟩) c ks∧kg w' g cS dH bR uses my∧I [g] w w'∧
  (∀ x,a=some x→w.heap.size≤x)∧(∀ x∈ks,x.ab.dE∧x.ab.bm≤bd∧∀ b∈x.aw,w.heap.size≤b)∧(dV (MRe.al ks):Int)≤lf - my∧-(2 * (d:Int))≤my∧eh (MRe.al ks)≤d + 1
theorem kg.ak7 {w ak wN:World} {g:Nat} {S:List Nat} {cS dH bR uses lf0 lf} (h0:kg w g cS dH bR uses lf0) (h:kg ak g cS dH bR uses lf) (gA:∀ x∈S,w.heap.size≤x) (k:I S ak wN):kg wN g cS dH bR uses lf:=by
 obtain ⟨a,c,h1,h2,aO⟩:=h.row;have hg:=h0.lt;exact ⟨h.kz.Uc k (fun hp a b8 hm=> by have:=(h0.AH hp a b8).1;have:=gA _ hm;omega),h.len,h.i64,fun hp a b8=> ⟨Nat.lt_of_lt_of_le (h.AH hp a b8).1 k.size,(h.AH hp a b8).2⟩,a,c,h1,h2,k.heap aO (fun hm=> by have:=gA _ hm;omega)⟩
theorem anW (l:List MRe) (m:MRe):dV (MRe.al (l ++ [m]))=dV (MRe.al l) + dD m.ab:=by
 induction l with
 | nil=> simp [MRe.al,dV]
 | cons x r ih=> simp only [List.cons_append,MRe.al,dV,ih];omega
theorem aiD (l:List MRe) (m:MRe):eh (MRe.al (l ++ [m]))=max (eh (MRe.al l)) (ev m.ab):=by
 induction l with
 | nil=> simp [MRe.al,eh]
 | cons x r ih=> simp only [List.cons_append,MRe.al,eh,ih];omega
theorem als {lf tC:Int} {d k s:Nat} (h1:3≤lf) (h2:lf≤1000) (hs:(s:Int)≤lf - tC) (hk:if k=0 then tC=lf else 3 - 2 * (d:Int) - (k:Int)≤tC) (dB:d≤100) (h3:k≤2):-1000≤tC∧tC≤1000:=by
 split at hk <;> omega
theorem alu {lf tC tB:Int} {d k:Nat} {ks:List MRe} {m:MRe} (h1:3≤lf) (hs:(dV (MRe.al ks):Int)≤lf - tC) (hk:if k=0 then tC=lf else 3 - 2 * (d:Int) - (k:Int)≤tC) (wZ:eh (MRe.al ks)≤d + 1) (hp:Left tC d tB m.ab):
  (dV (MRe.al (ks ++ [m])):Int)≤lf - tB∧(if k + 1=0 then tB=lf else 3 - 2 * (d:Int) - ((k + 1:Nat):Int)≤tB)∧eh (MRe.al (ks ++ [m]))≤d + 1:=by
 obtain ⟨p1,p2,jh⟩:=hp;rw [anW,aiD,if_neg (by omega)];refine ⟨by omega,?_,by omega⟩
 split at hk <;> omega
theorem abE {d bd:Nat} (xA:zF d bd) (dB:d≤100) {w:World} {g:Nat} {cS dH bR uses lf} (h:kg w g cS dH bR uses lf) (Ah:3≤lf) (DT:lf≤1000):
  Calls Tryz.prog 107 #[.pointer (some ⟨g,0,none⟩),H J ((d:Int) + 1)] w (agB w g cS dH bR uses lf d bd):=by
 obtain ⟨gq,hi,dQ,fj,eI⟩:=info_parts Eb;have gH:=C hi;have gI:=C dQ;have gJ:=C fj;have gK:=C eI;have HM:=C h;have Dd:=C xA;have vv:=C h.lt;have zq:=C (And.intro Ah DT);clear hi dQ fj eI h xA Ah DT;go_enter Tryz.func107,Tryz.ntmps107
 go_wp2
 go_loopw [5,6] (fun v i wr=> ∃ (k:Nat) (a:Option Nat) (c:Nat) (ks:List MRe) (tC:Int),k≤3∧i=H J k∧v=de a k c∧ks.length=k∧cr wr 26 8 a k c (fX ks)∧
   (∀ x∈ks,x.aK wr∧(∀ b∈x.aw,w.heap.size≤b∧a≠some b)∧x.ab.dE∧x.ab.bm≤bd)∧(∀ x,a=some x→w.heap.size≤x)∧kg wr g cS dH bR uses tC∧I [g] w wr∧(dV (MRe.al ks):Int)≤lf - tC∧(if k=0 then tC=lf else 3 - 2 * (d:Int) - (k:Int)≤tC)∧eh (MRe.al ks)≤d + 1) (fun _ i _=> 3 - (intOf i).toNat)
 case atStart=> exact ⟨0,none,0,[],lf,by omega,rfl,rfl,rfl,cr.nil _ _ _,by simp,by simp,HM.o,I.refl _ _,by simp [MRe.al,dV],by simp,by simp [MRe.al,eh]⟩
 case round=>
  obtain ⟨k,a,c,ks,tC,aP,rfl,rfl,mK,dd,hks,hag,hm,ck,cZ,FI,wZ⟩:=hrel;have oo:=C cZ;have Qd:=C FI;have BG:=C wZ;have hU:=C dd;have fZ:=C hks;have zo:=C hag;have Qo:=C hm;have cX:=C ck;have xq:=C mK;obtain ⟨lK,yS⟩:∃ lK,lK=wr:=⟨_,rfl⟩;clear dd hks hag hm ck mK cZ FI wZ;go_wp2_with fail
  refine Calls.mono (wb Qo.o 2 (by omega)) ?_;rintro e w2 ⟨x,eD,mi,rfl,qD,hk2,_⟩;have tL:=C qD;have bQ:=C hk2;clear qD hk2
  by_cases aQ:(k:Int) < 2 + x
  ·go_wp2_with fail
   have Th:=als (d:=d) zq.o.1 zq.o.2 oo.o Qd.o dB (by omega);refine Calls.mono (Dd.o w2 g cS dH bR uses tC tL.o Th.1 Th.2) ?_;rintro e bS ⟨ja,x1,rfl,hW,uc,hk5,hf5,na,lC,DE⟩;have sD:=C DE;have qY:=C hW;have wC:=C uc;have sB:=C (show I [g] wr bS from bQ.o.trans hk5);have qj:=C (show ∀ b∈ja.aw,wr.heap.size≤b from fun b ad=> Nat.le_trans bQ.o.size (hf5 b ad));have qs:=C na;have mV:=C lC;have hone:=wT [ja];rw [show fX [ja]=ja.row by simp [fX]] at hone;obtain ⟨bW,cQ⟩:∃ bW,bW=ja:=⟨_,rfl⟩;rw [←cQ] at qY qj qs mV sD;have jo:=C cQ;obtain ⟨op2,cg,cf,bj,ct,kc2,a8,mn2,bY,bX,bn,bZ⟩:=ja;simp only [MRe.row] at hone;simp only [MRe.val];have Qt:=C hone;clear hW uc hk5 hf5 na lC cQ hone DE Th;have hga:g ∉ a.toList:=fun h=> by
    have:=zo.o g (by simpa using h)
    have:=vv.o
    omega
   have MO:=C (hU.o.ah sB.o (by
    intro x hx h;simp at h;subst h
    have:=zo.o _ hx
    have:=vv.o
    omega))
   go_wp2_with (at_builtin;refine yb rfl (.tmp 14) (.tmp 19) 24 rfl 26 gq _ 8 96 Tryz.underlying24 gH.o gI.o gJ.o gK.o rfl (by decide) a k c _ rfl (MO.o.alloc _) ⟨bS.heap.size,0,none⟩ 1 1 [H J op2,M cg bj.length cf,M ct a8.length kc2,H J mn2,H J bY,H J bX,H J bn,F bZ] rfl rfl (x4 _ _ _ _ rfl) Qt.o (by decide) (by omega) (by omega) ?hk)
   case hk=>
    intro dz ax hG CB hV xN;have iH:I [g] wr (bS.alloc (bf op2 cg bj cf ct a8 kc2 mn2 bY bX bn bZ)):=sB.o.alloc _;have hal:∀ y,a=some y→y < wr.heap.size:=fun y hy=> by subst hy;exact hU.o.lt
    have hag:=zo.o;have sm:=vv.o;have yM:=sB.o.size;have gY:=cX.o.size;have uV:a=some dz∨bS.heap.size + 1≤dz:=by
     rcases xN with h | h
     ·exact .inl h
     ·right;simpa using h
    have HJ:∀ x∈ks ++ [bW],x.aK hG∧(∀ b∈x.aw,w.heap.size≤b∧some dz≠some b)∧x.ab.dE∧x.ab.bm≤bd:=by
     intro x hx
     rcases List.mem_append.1 hx with hx | hx
     ·obtain ⟨h1,h2,h3,h4⟩:=fZ.o x hx;refine ⟨(h1.bG iH fun b ad h=> ?_).bG hV fun b ad h=> (h2 b ad).2 (by simpa using h),fun b ad=> ⟨(h2 b ad).1,fun h=> ?_⟩,h3,h4⟩
      ·have:=(h2 b ad).1
       simp at h;omega
      ·have h5:=h1.fi b ad
       rcases uV with h7 | h7
       ·exact (h2 b ad).2 (by rw [h7,h])
       ·cases h;omega
     ·simp at hx;subst hx;refine ⟨(qY.o.ah (I.a1 bS _)).bG hV fun b ad h=> ?_,fun b ad=> ?_,qs.o,mV.o⟩
      ·have h3:=qj.o b ad;have h4:=hal b (by simpa using h);omega
      ·have h3:=qj.o b ad;have h4:=qY.o.fi b ad;refine ⟨by omega,fun h=> ?_⟩
       cases h
       rcases uV with h7 | h7
       ·have:=hal _ h7;omega
       ·omega
    have KL:∀ z,some dz=some z→w.heap.size≤z:=by
     intro z aW
     cases aW
     rcases uV with h7 | h7
     ·exact hag _ h7
     ·omega
    have ZY:=HM.o.ak7 (wC.o.ah (I.a1 bS (bf op2 cg bj cf ct a8 kc2 mn2 bY bX bn bZ))) (fun x hx=> hag x (by simpa using hx)) hV;have ZB:=(cX.o.trans iH).cn hV (fun x hx=> .inr (hag x (by simpa using hx)));have xM:fX (ks ++ [bW])=fX ks ++ [H J op2,M cg bj.length cf,M ct a8.length kc2,H J mn2,H J bY,H J bX,H J bn,F bZ]:=by rw [Cf,jo.o];simp [fX,MRe.row]
    rw [←xM] at CB;have G7:=C CB;have PV:=C HJ;have PL:=C KL;have GZ:=C ZY;have yn:=C ZB;clear iH hal hag sm yM gY uV HJ KL ZY hV ZB xM CB xN;have hk2:k≤2:=by omega
    go_wp2;go_roundw
    case rel=>
     have eE:=alu zq.o.1 oo.o Qd.o BG.o sD.o;exact ⟨k + 1,some dz,ax,ks ++ [bW],x1,by omega,by go_num,rfl,by simp [xq.o],G7.o,PV.o,PL.o,GZ.o,yn.o,eE.1,eE.2.1,eE.2.2⟩
    case measure=> simp [intOf];omega
  ·have hk2:2≤k:=by omega
   go_wp2;go_ret;have mK:=xq.o;subst mK;have hag:=zo.o;have sm:=vv.o;refine ⟨a,c,ks,tC,rfl,hk2,aP,⟨hH.we (hU.o.ah bQ.o (fun x hx h=> ?_)),fun x hx=> (fZ.o x hx).1.bG bQ.o fun b ad h=> ?_⟩,tL.o,cX.o.trans bQ.o,hag,fun x hx=> ⟨(fZ.o x hx).2.2.1,(fZ.o x hx).2.2.2,fun b ad=> ((fZ.o x hx).2.1 b ad).1⟩,oo.o,(by have h:=Qd.o;split at h <;> omega),BG.o⟩
   ·simp at h;subst h
    have:=hag _ hx
    omega
   ·have:=((fZ.o x hx).2.1 b ad).1
    simp at h;omega
theorem Ui {W:World} {T:Nat} {s:MRe} (h1:s.aK W) (cs:Array Value) (pt:cs.toList=s.row):gT (W.alloc (.cells cs T)) (some ⟨W.heap.size,0,none⟩) 1 [s]:=
 ⟨hH.kq (kids:=[s]) (heap_alloc_new W _) (by rw [pt];simp [fX]) (by simp [maxLen]),fun x hx=> by
  simp only [List.mem_cons,List.not_mem_nil,or_false] at hx;subst hx;exact h1.ah (I.a1 _ _)⟩
theorem alg {lf x1:Int} {d:Nat} {t s:Tree} (hp:Left lf d x1 t) (h:dD s=1∧ev s=1):Left lf d x1 s:=by
 obtain ⟨p1,p2,jh⟩:=hp
 have:1≤dD t:=by cases t;simp only [dD];omega
 exact ⟨by omega,p2,by omega⟩
theorem O0 {lf tB:Int} {d:Nat} {m:MRe} {op:Int} {sa:Option Addr} {sc:Nat} {set:List (Int × Int)} {ka:Option Addr} {kc:Nat} {mn mx mode n:Int} {neg:Bool} (h:3≤lf) (hp:Left lf d tB m.ab):tR lf d tB (MRe.ab (.node op sa sc set ka kc [m] mn mx mode n neg)):=by
 obtain ⟨p1,p2,jh⟩:=hp;refine ⟨?_,by omega,?_⟩
 ·simp only [MRe.ab,MRe.al,dD,dV];omega
 ·simp only [MRe.ab,MRe.al,ev,eh];omega
end Go.Proofs.YtjnlkjlbejelgaaGreat
