/- Part of the proof. No condition: every lemma says its own. -/
import Derived.Test.YtjnlkjlbejelgaaGreatRSPau
namespace Go.Proofs.YtjnlkjlbejelgaaGreat
open Go.RowKit
open Go.Value renaming int→H,slice→M,bool→F
open Go.IntKind renaming i64→J
open Go.RowKit Go.Sort Go.BigFrame
set_option maxRecDepth 100000
set_option maxHeartbeats 16000000
theorem aoy (w:World) (g:Nat) (cS:Option Addr) (dH:Nat) (bR:List Int) (uses lf:Int) (h:kg w g cS dH bR uses lf) (h1:-1000≤lf) (h2:lf≤1000):
  Calls Tryz.prog 73 #[.pointer (some ⟨g,0,none⟩),H J 5] w (GN w g cS dH bR uses (Left lf 5) 2551):=by
 have t0:zF 0 10:=ID (d:=0) (bd:=3) (fun uR h=> by omega) (by omega) (by omega);have t1:zF 1 31:=ID (d:=1) (bd:=10) (fun uR h=> (show uR=0 by omega) ▸ t0) (by omega) (by omega);have fu:zF 2 94:=ID (d:=2) (bd:=31) (fun uR h=> (show uR=1 by omega) ▸ t1) (by omega) (by omega);have t3:zF 3 283:=ID (d:=3) (bd:=94) (fun uR h=> (show uR=2 by omega) ▸ fu) (by omega) (by omega);have t4:zF 4 850:=ID (d:=4) (bd:=283) (fun uR h=> (show uR=3 by omega) ▸ t3) (by omega) (by omega);have t5:zF 5 2551:=ID (d:=5) (bd:=850) (fun uR h=> (show uR=4 by omega) ▸ t4) (by omega) (by omega);exact t5 w g cS dH bR uses lf h h1 h2
theorem aiG {w:World} {b:Nat} {o:Obj} (h:w.heap[b]? =some o):w.drew.heap[b]? =some o:=h
theorem kO:(Tryz.prog.info? 28).map (·.size)=some 10:=by kernel_rfl
def fV (m:MRe) (cp:Int) (ru:Bool):Value:=.agg (m.row ++ [H J cp,Value.bool ru]).toArray
def agX (w:World) (e:Ending) (w':World):Prop:=
 ∃ (m:MRe) (cp:Int),e=.returned (fV m cp false)∧m.aK w'∧I [] w w'∧lV w.heap.size m.aw∧m.ab.dE∧m.ab.bm≤2551∧0≤cp∧cp≤4∧dD m.ab≤22∧ev m.ab≤6
theorem alf {nP my:Int} {t:Tree} (h:Left nP 5 my t) (hm:nP≤14):dD t≤22∧ev t≤6:=by
 obtain ⟨p1,p2,jh⟩:=h;omega
@[reducible] def Pn (w:World) (g:Nat) (v0 v1 v2 v3 v4 v5 v6 v7 AN v9:Value):World:=((((((((((w.setCell ⟨g,0,none⟩ v0).setCell ⟨g,1,none⟩ v1).setCell ⟨g,2,none⟩ v2).setCell ⟨g,3,none⟩ v3).setCell ⟨g,4,none⟩ v4).setCell ⟨g,5,none⟩ v5).setCell ⟨g,6,none⟩ v6).setCell ⟨g,7,none⟩ v7).setCell ⟨g,8,none⟩ AN).setCell ⟨g,9,none⟩ v9)
theorem pe {w:World} {g T:Nat} {u0 u1 u2 u3 u4 u5 u6 u7 u8 u9:Value} (h:w.heap[g]? =some (.cells #[u0,u1,u2,u3,u4,u5,u6,u7,u8,u9] T (0,0))) (v0 v1 v2 v3 v4 v5 v6 v7 AN v9:Value):(Pn w g v0 v1 v2 v3 v4 v5 v6 v7 AN v9).heap[g]? =some (.cells #[v0,v1,v2,v3,v4,v5,v6,v7,AN,v9] T (0,0)):=by
 have h0:(w.setCell ⟨g,0,none⟩ v0).heap[g]? =some (.cells #[v0,u1,u2,u3,u4,u5,u6,u7,u8,u9] T (0,0)):=heap_setCell_same _ g 0 _ T v0 h;have h1:((w.setCell ⟨g,0,none⟩ v0).setCell ⟨g,1,none⟩ v1).heap[g]? =some (.cells #[v0,v1,u2,u3,u4,u5,u6,u7,u8,u9] T (0,0)):=heap_setCell_same _ g 1 _ T v1 h0;have h2:(((w.setCell ⟨g,0,none⟩ v0).setCell ⟨g,1,none⟩ v1).setCell ⟨g,2,none⟩ v2).heap[g]? =some (.cells #[v0,v1,v2,u3,u4,u5,u6,u7,u8,u9] T (0,0)):=heap_setCell_same _ g 2 _ T v2 h1;have h3:((((w.setCell ⟨g,0,none⟩ v0).setCell ⟨g,1,none⟩ v1).setCell ⟨g,2,none⟩ v2).setCell ⟨g,3,none⟩ v3).heap[g]? =some (.cells #[v0,v1,v2,v3,u4,u5,u6,u7,u8,u9] T (0,0)):=heap_setCell_same _ g 3 _ T v3 h2;have h4:(((((w.setCell ⟨g,0,none⟩ v0).setCell ⟨g,1,none⟩ v1).setCell ⟨g,2,none⟩ v2).setCell ⟨g,3,none⟩ v3).setCell ⟨g,4,none⟩ v4).heap[g]? =some (.cells #[v0,v1,v2,v3,v4,u5,u6,u7,u8,u9] T (0,0)):=heap_setCell_same _ g 4 _ T v4 h3;have h5:((((((w.setCell ⟨g,0,none⟩ v0).setCell ⟨g,1,none⟩ v1).setCell ⟨g,2,none⟩ v2).setCell ⟨g,3,none⟩ v3).setCell ⟨g,4,none⟩ v4).setCell ⟨g,5,none⟩ v5).heap[g]? =some (.cells #[v0,v1,v2,v3,v4,v5,u6,u7,u8,u9] T (0,0)):=heap_setCell_same _ g 5 _ T v5 h4;have eW:(((((((w.setCell ⟨g,0,none⟩ v0).setCell ⟨g,1,none⟩ v1).setCell ⟨g,2,none⟩ v2).setCell ⟨g,3,none⟩ v3).setCell ⟨g,4,none⟩ v4).setCell ⟨g,5,none⟩ v5).setCell ⟨g,6,none⟩ v6).heap[g]? =some (.cells #[v0,v1,v2,v3,v4,v5,v6,u7,u8,u9] T (0,0)):=heap_setCell_same _ g 6 _ T v6 h5;have h7:((((((((w.setCell ⟨g,0,none⟩ v0).setCell ⟨g,1,none⟩ v1).setCell ⟨g,2,none⟩ v2).setCell ⟨g,3,none⟩ v3).setCell ⟨g,4,none⟩ v4).setCell ⟨g,5,none⟩ v5).setCell ⟨g,6,none⟩ v6).setCell ⟨g,7,none⟩ v7).heap[g]? =some (.cells #[v0,v1,v2,v3,v4,v5,v6,v7,u8,u9] T (0,0)):=heap_setCell_same _ g 7 _ T v7 eW;have ix:(((((((((w.setCell ⟨g,0,none⟩ v0).setCell ⟨g,1,none⟩ v1).setCell ⟨g,2,none⟩ v2).setCell ⟨g,3,none⟩ v3).setCell ⟨g,4,none⟩ v4).setCell ⟨g,5,none⟩ v5).setCell ⟨g,6,none⟩ v6).setCell ⟨g,7,none⟩ v7).setCell ⟨g,8,none⟩ AN).heap[g]? =some (.cells #[v0,v1,v2,v3,v4,v5,v6,v7,AN,u9] T (0,0)):=heap_setCell_same _ g 8 _ T AN h7;have lg:((((((((((w.setCell ⟨g,0,none⟩ v0).setCell ⟨g,1,none⟩ v1).setCell ⟨g,2,none⟩ v2).setCell ⟨g,3,none⟩ v3).setCell ⟨g,4,none⟩ v4).setCell ⟨g,5,none⟩ v5).setCell ⟨g,6,none⟩ v6).setCell ⟨g,7,none⟩ v7).setCell ⟨g,8,none⟩ AN).setCell ⟨g,9,none⟩ v9).heap[g]? =some (.cells #[v0,v1,v2,v3,v4,v5,v6,v7,AN,v9] T (0,0)):=heap_setCell_same _ g 9 _ T v9 ix;exact lg
theorem pf (w:World) (g:Nat) (v0 v1 v2 v3 v4 v5 v6 v7 AN v9:Value):I [g] w (Pn w g v0 v1 v2 v3 v4 v5 v6 v7 AN v9):=
 (((((((((((I.refl [g] w).setCell (.inl (by simp)) _).setCell (.inl (by simp)) _).setCell (.inl (by simp)) _).setCell (.inl (by simp)) _).setCell (.inl (by simp)) _).setCell (.inl (by simp)) _).setCell (.inl (by simp)) _).setCell (.inl (by simp)) _).setCell (.inl (by simp)) _).setCell (.inl (by simp)) _)
theorem fR {w:World} {g T:Nat} {u0 u1 u2 u3 u4 u5 u6 u7 u8 u9:Value} (h:w.heap[g]? =some (.cells #[u0,u1,u2,u3,u4,u5,u6,u7,u8,u9] T (0,0))):
  w.cell? ⟨g,0,none⟩=some u0∧w.cell? ⟨g,1,none⟩=some u1∧w.cell? ⟨g,2,none⟩=some u2∧w.cell? ⟨g,3,none⟩=some u3∧w.cell? ⟨g,4,none⟩=some u4∧w.cell? ⟨g,5,none⟩=some u5∧w.cell? ⟨g,6,none⟩=some u6∧w.cell? ⟨g,7,none⟩=some u7∧w.cell? ⟨g,8,none⟩=some u8∧w.cell? ⟨g,9,none⟩=some u9∧(∀ o,w.frozen? ⟨g,o,none⟩=false):=by
 refine ⟨?_,?_,?_,?_,?_,?_,?_,?_,?_,?_,fun i=> ?_⟩ <;> simp [World.cell?,World.frozen?,h]
theorem aml (cS:Option Addr) (dH:Nat) (bR:List Int) (uses nP:Int) (w:World) (hin:hr w cS bR) (hl:bR.length≤9223372036854775807) (ad:∀ x∈bR,np x) (cQ:-1000≤nP) (hA:nP≤14):
  Calls Tryz.prog 38 #[M cS bR.length dH,H J uses,H J nP] w (agX w):=by
 have A0:=C (And.intro cQ hA);clear cQ hA;go_enter Tryz.func38,Tryz.ntmps38
 obtain ⟨U,cd⟩:∃ U,U=w.heap.size:=⟨_,rfl⟩;obtain ⟨aE,cz⟩:∃ aE:World,aE=(w.alloc hN).alloc (.cells #[M cS bR.length dH,H J 0,H J uses,H J nP,H J 0] 99):=⟨_,rfl⟩;have cq:I [] w aE:=by rw [cz];exact I.a2 _ _ _
 have aW:aE.heap[U]? =some hN:=by rw [cz,cd];exact (I.a1 _ _).heap (heap_alloc_new w _) (by simp)
 have hg:aE.heap[U + 1]? =some (.cells #[M cS bR.length dH,H J 0,H J uses,H J nP,H J 0] 99 (0,0)):=by rw [cz,cd];exact heap_alloc2_new w _ _
 have hm:kg aE (U + 1) cS dH bR uses nP:=⟨hin.bG cq (fun _ _=> by simp),hl,ad,fun h0 a b8=> ⟨Nat.lt_of_lt_of_le (hin.lt h0 a b8) cq.size,by have:=hin.lt h0 a b8;omega⟩,0,0,by omega,by omega,hg⟩;have HM:=C hm;have aH:=C cq;have ba:=C aW;have c7:=C cz;have aB:=C cd;clear hin ad cq aW hg hm cz cd hl;go_wp2_with fail
 rw [←c7.o,←aB.o];refine Calls.mono (aoy aE (U + 1) cS dH bR uses nP HM.o A0.o.1 (by have:=A0.o.2;omega)) ?_;rintro e w2 ⟨m,are,rfl,hmo,Ln,oC,m8,HT,m7,Z7⟩;have eg:=C (alf Z7 A0.o.2);obtain ⟨vL,qy,xG,sh,gL⟩:=Ln.row;obtain ⟨ar,c1,c2,an,av,fh⟩:=vm gL;have bQ:=C oC;have gD:=C hmo;have gj:=C m8;have jd:=C HT;have mV:=C m7;obtain ⟨bW,cQ⟩:∃ bW,bW=m:=⟨_,rfl⟩;rw [←cQ] at gD gj jd mV eg;have jo:=C cQ;obtain ⟨op2,cg,cf,bj,ct,kc2,a8,mn2,bY,bX,bn,bZ⟩:=m;simp only [MRe.val];clear hmo Ln oC m8 HT m7 cQ gL Z7;go_upto_region 3 with fail
 obtain ⟨aA,sU⟩:∃ aA,aA=w2.alloc (bf op2 cg bj cf ct a8 kc2 mn2 bY bX bn bZ):=⟨_,rfl⟩;have eZ:I [] w2 aA:=by rw [sU];exact I.a1 _ _
 have rE:aA.heap[w2.heap.size]? =some (bf op2 cg bj cf ct a8 kc2 mn2 bY bX bn bZ):=by rw [sU];exact heap_alloc_new w2 _
 rw [←sU];obtain ⟨c6,y1,dp,eb,ef,ej,ek,el⟩:=eR rE;have bq:=eZ.c av;have vy:=C (bQ.o.trans (eZ.mono (S':=[U + 1]) (by simp)));have yr:=C (gD.o.ah eZ);have sC:=C (show w2.heap.size≠U by have:=bQ.o.size;have:=lt_of_block ba.o;omega);have Hb:=C (vy.o.h ba.o);have tJ:=C (And.intro xG sh);clear sU eZ rE ar c1 c2 an av fh xG sh;refine rg (S:=fun w'=> w'.cell? ⟨U + 1,4,none⟩=some (H J qy)∧w'.cell? ⟨w2.heap.size,0,none⟩=some (H J op2)∧w'.cell? ⟨w2.heap.size,1,none⟩=some (M cg bj.length cf)∧w'.cell? ⟨w2.heap.size,2,none⟩=some (M ct a8.length kc2)∧w'.cell? ⟨w2.heap.size,3,none⟩=some (H J mn2)∧w'.cell? ⟨w2.heap.size,4,none⟩=some (H J bY)∧w'.cell? ⟨w2.heap.size,5,none⟩=some (H J bX)∧w'.cell? ⟨w2.heap.size,6,none⟩=some (H J bn)∧w'.cell? ⟨w2.heap.size,7,none⟩=some (F bZ)) (fun _ k=> ⟨k.c bq,k.c c6,k.c y1,k.c dp,k.c eb,k.c ef,k.c ej,k.c ek,k.c el⟩) fun bM aF=> ?_;refine ag 0 ?_;refine ag 1 ?_;refine ag 2 ?_;refine ag 3 ?_;refine ag 4 ?_;refine ag 5 ?_;obtain ⟨z0,z1,z2,z3,z4,z5,b9,cc,qf,z9,cj⟩:=fR Hb.o;refine bh 6 fun ai af=> ?_;go_simp;have c3:=pf aA U (H J op2) (M cg bj.length cf) (M ct a8.length kc2) (H J mn2) (H J bY) (H J bX) (H J bn) (F bZ) (H J qy) (F false);have bk:=C c3;have eo:=C (aiG (pe Hb.o (H J op2) (M cg bj.length cf) (M ct a8.length kc2) (H J mn2) (H J bY) (H J bX) (H J bn) (F bZ) (H J qy) (F false)));have ey:=C ((yr.o.bG c3 fun b ad=> by have:=gj.o b ad;have:=lt_of_block ba.o;simp;omega).ah (I.refl [] _).drew);have fS:=C (show I [] w _ from ((aH.o.cn vy.o (by intro ae hq;simp at hq;subst hq;exact .inr (by have:=aB.o;omega))).cn c3 (by intro ae hq;simp at hq;subst hq;exact .inr (by have:=aB.o;omega))).drew);clear c3;refine af.out _ _ (⟨bk.o.drew.c bq,bk.o.drew.cell c6 (by simp;exact sC.o),bk.o.drew.cell y1 (by simp;exact sC.o),bk.o.drew.cell dp (by simp;exact sC.o),bk.o.drew.cell eb (by simp;exact sC.o),bk.o.drew.cell ef (by simp;exact sC.o),bk.o.drew.cell ej (by simp;exact sC.o),bk.o.drew.cell ek (by simp;exact sC.o),bk.o.drew.cell el (by simp;exact sC.o)⟩) (fun aF=> ?_);clear af ai;try go_frame
 refine dR ?_;clear aF z0 z1 z2 z3 z4 z5 b9 cc qf z9 cj c6 y1 dp eb ef ej ek el bq;go_wp2;refine bodyPost_ret (results_cell_row rfl _ _ U 28 #[H J op2,M cg bj.length cf,M ct a8.length kc2,H J mn2,H J bY,H J bX,H J bn,F bZ,H J qy,F false] (0,0) _ rfl eo.o Tryz.underlying28 rfl kO) rfl ?_;exact ⟨bW,qy,by rw [jo.o];rfl,ey.o,fS.o,fun b ad=> Nat.le_trans aH.o.size (gj.o b ad),jd.o,mV.o,tJ.o.1,tJ.o.2,eg.o.1,eg.o.2⟩
def gZ (t:Tree) (cp:Int) (ru:Bool):Int:=
 if 256 < dD t∨24 < ev t then 4 else if cp < 0∨9 < cp∨j2 cp (if ru then 1114111 else 255) t=false then 1 else 0
theorem Mb (m:MRe) (cp:Int) (ru:Bool) (w:World) (aj:m.aK w) (ad:m.ab.bm≤1000000):
  Calls Tryz.prog 43 #[fV m cp ru] w fun e w'=> e=.returned (H J (gZ m.ab cp ru))∧I [] w w':=by
 obtain ⟨R,aC⟩:∃ R,R=gZ m.ab cp ru:=⟨_,rfl⟩;rw [←aC];obtain ⟨Er,cZ⟩:∃ Er,Er=dD m.ab:=⟨_,rfl⟩;obtain ⟨Dv,wZ⟩:∃ Dv,Dv=ev m.ab:=⟨_,rfl⟩;have aaM:=AJ m.ab;rw [←cZ,←wZ] at aaM;unfold gZ at aC;rw [←cZ,←wZ] at aC;have cW:=fun W (h:I [] w W)=> anm m W (aj.ah h) ad;have gi:=fun W (h:I [] w W)=> am1 m W (aj.ah h) ad;have jd:=fun top (ht:top≤2000000) W (h:I [] w W)=> anv cp top ht m W (aj.ah h);simp only [←cZ] at cW;simp only [←wZ] at gi;obtain ⟨op,sa,sc,set,ka,kc,kids,mn,mx,mode,n,neg⟩:=m;simp only [MRe.val] at cW gi jd;have cW:=C cW;have gi:=C gi;have dW:=C aC;obtain ⟨U,cd⟩:∃ U,U=w.heap.size:=⟨_,rfl⟩;obtain ⟨aA,c5⟩:∃ aA,aA=w.alloc (.cells #[H J op,M sa set.length sc,M ka kids.length kc,H J mn,H J mx,H J mode,H J n,F neg,H J cp,F ru] 28):=⟨_,rfl⟩;have eZ:I [] w aA:=by rw [c5];exact I.a1 _ _
 obtain ⟨ar,c1,c2,an,av,ay,ax,az,au,dg,fh⟩:=fR (show aA.heap[U]? =some (.cells #[H J op,M sa set.length sc,M ka kids.length kc,H J mn,H J mx,H J mode,H J n,F neg,H J cp,F ru] 28 (0,0)) by rw [c5,cd];exact heap_alloc_new w _);have dw:=C c5;have aB:=C cd;have aZ:=C eZ;have gQ:Er≤1000000:=by omega
 have gn:Dv≤1000000:=by omega
 have MS:=C jd;clear c5 cd eZ aC aj ad aaM cZ wZ jd
 show Calls Tryz.prog 43 #[.agg #[H J op,M sa set.length sc,M ka kids.length kc,H J mn,H J mx,H J mode,H J n,F neg,H J cp,F ru]] w _
 go_enter Tryz.func43,Tryz.ntmps43
 go_upto_region 1 with fail
 rw [←dw.o,←aB.o];go_wp2_with fail
 refine Calls.mono (cW.o _ aZ.o) ?_;rintro e w2 ⟨rfl,hk2⟩;have aU:=C (aZ.o.trans hk2);have ahx:=C (hk2.c au);have ahy:=C (hk2.c dg);obtain ⟨bK,d1,d2,bL,bO,bT,bU,bV⟩:=hk2.au ar c1 c2 an av ay ax az;clear hk2 ar c1 c2 an av ay ax az au dg fh
 by_cases w6:256 < Er
 ·have aD:=C (show R=4 by rw [dW.o,if_pos (.inl w6)]);have yJ:(256:Int) < (Er:Int):=by omega
  go_wp2;go_ret;exact ⟨by rw [aD.o];rfl,aU.o⟩
 ·have yJ:¬ (256:Int) < (Er:Int):=by omega
  go_wp2_with fail
  refine Calls.mono (gi.o _ aU.o) ?_;rintro e w3 ⟨rfl,aP⟩;have aR:=C (aU.o.trans aP);have jz:=aP.c ahx.o;have jA:=aP.c ahy.o;obtain ⟨bg,aV,a6,bl,bq,bE,bF,bH⟩:=aP.au bK d1 d2 bL bO bT bU bV;clear aP bK d1 d2 bL bO bT bU bV
  by_cases sZ:24 < Dv
  ·have aD:=C (show R=4 by rw [dW.o,if_pos (.inr sZ)]);have ajS:(24:Int) < (Dv:Int):=by omega
   go_wp2;go_ret;exact ⟨by rw [aD.o];rfl,aR.o⟩
  ·have ajS:¬ (24:Int) < (Dv:Int):=by omega
   cases ru with
   | true=>
    have gN:=C (show R=if cp < 0∨9 < cp∨j2 cp 1114111 (MRe.ab (.node op sa sc set ka kc kids mn mx mode n neg))=false then 1 else 0 by rw [dW.o,if_neg (by omega)];rfl);have Jy:=C (MS.o 1114111 (by omega))
    by_cases km:cp < 0
    ·have aD:=C (show R=1 by rw [gN.o,if_pos (.inl km)]);go_wp2;go_ret;exact ⟨by rw [aD.o];rfl,aR.o⟩
    ·by_cases tX:9 < cp
     ·have aD:=C (show R=1 by rw [gN.o,if_pos (.inr (.inl tX))]);go_wp2;go_ret;exact ⟨by rw [aD.o];rfl,aR.o⟩
     ·obtain ⟨GJ,D7⟩:∃ GJ,GJ=j2 cp 1114111 (MRe.ab (.node op sa sc set ka kc kids mn mx mode n neg)):=⟨_,rfl⟩;rw [←D7] at Jy gN;clear D7;go_wp2_with fail
      refine Calls.mono (Jy.o _ aR.o) ?_;rintro e w4 ⟨rfl,bc⟩;have cl:=C (aR.o.trans bc);clear bc bg aV a6 bl bq bE bF bH jz jA
      cases GJ with
      | false=>
       have aD:=C (show R=1 by rw [gN.o,if_pos (.inr (.inr rfl))]);go_wp2;go_ret;exact ⟨by rw [aD.o];rfl,cl.o⟩
      | true=>
       have aD:=C (show R=0 by rw [gN.o,if_neg (by intro h;rcases h with h | h | h;omega;omega;cases h)]);go_wp2;go_ret;exact ⟨by rw [aD.o];rfl,cl.o⟩
   | false=>
    have gN:=C (show R=if cp < 0∨9 < cp∨j2 cp 255 (MRe.ab (.node op sa sc set ka kc kids mn mx mode n neg))=false then 1 else 0 by rw [dW.o,if_neg (by omega)];rfl);have Jy:=C (MS.o 255 (by omega))
    by_cases km:cp < 0
    ·have aD:=C (show R=1 by rw [gN.o,if_pos (.inl km)]);go_wp2;go_ret;exact ⟨by rw [aD.o];rfl,aR.o⟩
    ·by_cases tX:9 < cp
     ·have aD:=C (show R=1 by rw [gN.o,if_pos (.inr (.inl tX))]);go_wp2;go_ret;exact ⟨by rw [aD.o];rfl,aR.o⟩
     ·obtain ⟨GJ,D7⟩:∃ GJ,GJ=j2 cp 255 (MRe.ab (.node op sa sc set ka kc kids mn mx mode n neg)):=⟨_,rfl⟩;rw [←D7] at Jy gN;clear D7;go_wp2_with fail
      refine Calls.mono (Jy.o _ aR.o) ?_;rintro e w4 ⟨rfl,bc⟩;have cl:=C (aR.o.trans bc);clear bc bg aV a6 bl bq bE bF bH jz jA
      cases GJ with
      | false=>
       have aD:=C (show R=1 by rw [gN.o,if_pos (.inr (.inr rfl))]);go_wp2;go_ret;exact ⟨by rw [aD.o];rfl,cl.o⟩
      | true=>
       have aD:=C (show R=0 by rw [gN.o,if_neg (by intro h;rcases h with h | h | h;omega;omega;cases h)]);go_wp2;go_ret;exact ⟨by rw [aD.o];rfl,cl.o⟩
theorem aow (ru:Bool) (w:World):Calls Tryz.prog 99 #[F ru] w fun e w'=> e=.returned (H J (if ru then 1114111 else 255))∧w=w':=by
 cases ru with
 | true=> go_enter Tryz.func99,Tryz.ntmps99;go_wp2;go_ret;exact ⟨rfl,rfl⟩
 | false=> go_enter Tryz.func99,Tryz.ntmps99;go_wp2;go_ret;exact ⟨rfl,rfl⟩
theorem fb.al2 {w:World} {b:Nat} {m:MRe} {u v:Value} {T:Nat} {fz:Nat × Nat} (h:w.heap[b]? =some (.cells (m.row ++ [u,v]).toArray T fz)):fb w b 0 m:=by
 intro j c8;simp [World.cell?,h,List.getElem?_append_left c8]
theorem Nn (m:MRe) (cp:Int) (ru:Bool) (w:World) (aj:m.aK w):
  Calls Tryz.prog 59 #[fV m cp ru] w fun e w'=> e=.returned (H J (gZ m.ab cp ru))∧I [] w w':=by
 obtain ⟨U,cd⟩:∃ U,U=w.heap.size:=⟨_,rfl⟩;obtain ⟨top,Oo⟩:∃ t:Int,t=if ru then 1114111 else 255:=⟨_,rfl⟩;have ht:top≤2000000:=by rw [Oo];split <;> omega
 have pR:=C (fun (W:World)=> aow ru W);rw [←Oo] at pR;obtain ⟨R,aC⟩:∃ R,R=gZ m.ab cp ru:=⟨_,rfl⟩;rw [←aC];unfold gZ at aC;rw [←Oo] at aC;obtain ⟨g0,n6⟩:∃ g,g=(decide (0≤cp) && decide (cp≤9)):=⟨_,rfl⟩;have aQ:=aj.fi;have jd:=C (fun (W:World) (h1:fb W U 0 m) (h2:m.aK W) (h3:JP W (U + 1) (U + 1 + 1) U (U + 1 + 1 + 1) (U + 1 + 1 + 1 + 1) cp top) (h4:pU W (U + 1) 0) (h5:sw W (U + 1 + 1) g0)=> aoU (U + 1) (U + 1 + 1) U (U + 1 + 1 + 1) (U + 1 + 1 + 1 + 1) cp top ht m U 0 1 0 g0 W h1 h2 h3 h4 h5 (by omega) (by omega) (by omega) (by omega) (by omega) (fun h=> by have:=aQ _ h;omega) (fun h=> by have:=aQ _ h;omega));have kF:∀ hv:Bool,(hv=(g0 && j2 cp top m.ab))→dD m.ab≤256→ev m.ab≤24→R=if hv then 0 else 1:=by
  intro hv h1 h2 h3;rw [aC,if_neg (by omega),h1,n6]
  by_cases q1:0≤cp <;> by_cases q2:cp≤9 <;> cases hq:j2 cp top m.ab <;> simp [q1,q2,Int.not_lt.mpr,Int.not_le.mp] <;> omega
 have zR:256 < dD m.ab∨24 < ev m.ab→R=4:=fun h=> by rw [aC,if_pos h]
 have gN:=C kF;have cw:=C zR;have iL:=C aj;obtain ⟨aA,c5⟩:∃ aA,aA=w.alloc (.cells (m.row ++ [H J cp,Value.bool ru]).toArray 28):=⟨_,rfl⟩;have sU:=heap_alloc_new w (.cells (m.row ++ [H J cp,Value.bool ru]).toArray 28);rw [←c5,←cd] at sU;have ix:fb aA U 0 m:=fb.al2 sU;have eZ:I [] w aA:=by rw [c5];exact I.a1 _ _
 have cZ:aA.heap.size=U + 1:=by rw [c5,cd];simp
 have aB:=C cd;have dw:=C c5;have wx:=C ix;have aZ:=C eZ;have oo:=C cZ;have pt:=show g0=false∧¬ 0≤cp∨g0=false∧0≤cp∧¬ cp≤9∨g0=true∧0≤cp∧cp≤9 by rw [n6];by_cases q1:0≤cp <;> by_cases q2:cp≤9 <;> simp [q1,q2]
 have apc:=C n6;obtain ⟨op,sa,sc,set,ka,kc,kids,mn,mx,mode,n,neg⟩:=m;have agp:=C (show aA=w.alloc (.cells #[H J op,M sa set.length sc,M ka kids.length kc,H J mn,H J mx,H J mode,H J n,F neg,H J cp,F ru] 28) from dw.o);obtain ⟨ar,c1,c2,an,av,ay,ax,az,au,dg,fh⟩:=fR (show aA.heap[U]? =some (.cells #[H J op,M sa set.length sc,M ka kids.length kc,H J mn,H J mx,H J mode,H J n,F neg,H J cp,F ru] 28 (0,0)) from sU);have m8:∀ (fn:Fn) (first cap:Array Value) (w:World),(Instr.makeFunc fn first cap).run Tryz.prog w=.ok (.func fn first cap) w:=fun _ _ _ _=> rfl;clear c5 ix eZ cZ cd n6 kF zR sU aj aQ aC ht Oo ar c1 c2 an av ay ax az
 show Calls Tryz.prog 59 #[.agg #[H J op,M sa set.length sc,M ka kids.length kc,H J mn,H J mx,H J mode,H J n,F neg,H J cp,F ru]] w _
 go_enter Tryz.func59,Tryz.ntmps59
 go_upto_region 1 with fail
 rw [←agp.o,←aB.o];obtain ⟨Fa,Kz⟩:∃ W,W=aA.alloc (.cells #[H J 0] 3):=⟨_,rfl⟩;have MX:=C Kz;have QT:=C (show I [] aA Fa by rw [Kz];exact I.a1 _ _);have Rl:=C (show Fa.heap.size=U + 1 + 1 by rw [Kz];simp [oo.o]);have aeb:=C (show Fa.heap[U + 1]? =some (.cells #[H J 0] 3 (0,0)) by rw [Kz,←oo.o];exact heap_alloc_new aA _);clear Kz;have Fg:=QT.o.c au;have J2:=QT.o.c dg;clear au dg fh;go_upto_region 2 with fail
 rw [←MX.o,oo.o]
 go_cut [4] (fun kM db=> kM=.pointer (some ⟨U + 1 + 1,0,none⟩)∧db=Fa.alloc (.cells #[F g0] 4))
 case first=>
  rcases pt with ⟨rfl,h0⟩ | ⟨rfl,h0,lg⟩ | ⟨rfl,h0,lg⟩
  all_goals
   go_wp2;rw [Rl.o];go_meet;exact ⟨rfl,rfl⟩
 obtain ⟨rfl,mN⟩:=hcut;obtain ⟨Hk,KA⟩:∃ W,W=Fa.alloc (.cells #[F g0] 4):=⟨_,rfl⟩;have agm:=C KA;have QU:=C (show I [] Fa Hk by rw [KA];exact I.a1 _ _);have Rm:=C (show Hk.heap.size=U + 1 + 1 + 1 by rw [KA];simp [Rl.o]);have aec:=C (show Hk.heap[U + 1 + 1]? =some (.cells #[F g0] 4 (0,0)) by rw [KA,←Rl.o];exact heap_alloc_new Fa _);clear KA;rw [←agm.o] at mN;rw [mN];clear mN;have RD:=QU.o.c Fg;have Xp:=QU.o.c J2;clear Fg J2;go_wp2_with fail
 refine Calls.mono (pR.o _) ?_;rintro e w2 ⟨rfl,rfl⟩;go_upto_region 4 with fail
 obtain ⟨Hl,KB⟩:∃ W,W=Hk.alloc (.cells #[H J top] 3):=⟨_,rfl⟩;have agn:=C KB;have QV:=C (show I [] Hk Hl by rw [KB];exact I.a1 _ _);have Rn:=C (show Hl.heap.size=U + 1 + 1 + 1 + 1 by rw [KB];simp [Rm.o]);have aed:=C (show Hl.heap[U + 1 + 1 + 1]? =some (.cells #[H J top] 3 (0,0)) by rw [KB,←Rm.o];exact heap_alloc_new Hk _);clear KB;rw [←agn.o,Rm.o];obtain ⟨Nd,KC⟩:∃ W,W=Hl.alloc (.cells #[(.func (Fn.func 100) #[] #[.pointer (some ⟨U + 1,0,none⟩),.pointer (some ⟨U + 1 + 1,0,none⟩),.pointer (some ⟨U,0,none⟩),.pointer (some ⟨U + 1 + 1 + 1,0,none⟩),.pointer (some ⟨U + 1 + 1 + 1 + 1,0,none⟩)])] 107):=⟨_,rfl⟩;have ago:=C KC;have M5:=C (show I [] Hl Nd by rw [KC];exact I.a1 _ _);have apr:=C (show Nd.heap.size=U + 1 + 1 + 1 + 1 + 1 by rw [KC];simp [Rn.o]);have aee:=C (show Nd.heap[U + 1 + 1 + 1 + 1]? =some (.cells #[(.func (Fn.func 100) #[] #[.pointer (some ⟨U + 1,0,none⟩),.pointer (some ⟨U + 1 + 1,0,none⟩),.pointer (some ⟨U,0,none⟩),.pointer (some ⟨U + 1 + 1 + 1,0,none⟩),.pointer (some ⟨U + 1 + 1 + 1 + 1,0,none⟩)])] 107 (0,0)) by rw [KC,←Rn.o];exact heap_alloc_new Hl _);clear KC;go_wp2_with fail
 rw [Rn.o,←ago.o];have Wv:=C (QU.o.trans (QV.o.trans M5.o));have Wu:=C (QT.o.trans Wv.o);have WC:=C (aZ.o.trans Wu.o);refine Calls.mono (jd.o Nd (wx.o.ah Wu.o) (iL.o.ah WC.o) ⟨?_,?_,?_,by omega,by omega,by omega⟩ (Wv.o.h aeb.o) ((QV.o.trans M5.o).h aec.o)) ?_
 ·exact (QV.o.trans M5.o).c RD
 ·exact M5.o.cell (by simp [World.cell?,aed.o]) (by simp)
 ·simp [World.cell?,aee.o]
 rintro e bS ⟨r,kh,k4,rfl,hk5,To,SI,gL,p4⟩;have dr:=C (WC.o.cn hk5 (by intro x hx;simp only [List.mem_cons,List.not_mem_nil,or_false] at hx;exact .inr (by have:=aB.o;omega)));have g1:=SI.cell
 cases r with
 | false=>
  have aD:=C (cw.o (by have:=p4 rfl;omega));clear hk5 To SI gL p4;go_wp2;go_ret;exact ⟨by rw [aD.o];rfl,dr.o⟩
 | true=>
  obtain ⟨-,p2,jh,ji⟩:=gL rfl;have aD:=C (gN.o k4 ji (by omega) (by omega));clear hk5 To SI gL p4 p2 jh ji
  cases k4 with
  | true=>
   go_wp2;go_ret;exact ⟨by rw [aD.o];rfl,dr.o⟩
  | false=>
   go_wp2;go_ret;exact ⟨by rw [aD.o];rfl,dr.o⟩
def n3 (w:World) (cp:Int) (ru:Bool) (v:Value) (o:Option Tree) (e:Ending) (w':World):Prop:=
 ∃ (m:MRe) (cp':Int) (ru':Bool),e=.returned (.tuple #[fV m cp' ru',v])∧m.ab=o.getD .nil∧cp'=(if o.isSome then cp else 0)∧ru'=(o.isSome && ru)∧m.aK w'∧I [] w w'∧∀ b∈m.aw,w.heap.size≤b
theorem n3.dL {w:World} {cp:Int} {ru:Bool} {v:Value} {o:Option Tree} {e:Ending} {w':World} (h:o=none) (he:e=.returned (.tuple #[fV .nil 0 false,v])) (hk:I [] w w'):n3 w cp ru v o e w':=by
 subst h;exact ⟨MRe.nil,0,false,he,rfl,rfl,rfl,MRe.aK.nil _,hk,by intro b ad;simp [MRe.nil,MRe.aw,MRe.dN,df] at ad⟩
theorem n3.iI {w:World} {cp:Int} {ru:Bool} {v:Value} {o:Option Tree} {e:Ending} {w':World} (r:MRe) (h:o=some r.ab) (he:e=.returned (.tuple #[fV r cp ru,v])) (aO:r.aK w') (hk:I [] w w') (hf:∀ b∈r.aw,w.heap.size≤b):n3 w cp ru v o e w':=by
 subst h;exact ⟨r,cp,ru,he,rfl,rfl,by simp,aO,hk,hf⟩
def sr (t:Tree) (cp:Int) (ru:Bool) (path:List Int) (p:Tree):Option Tree:=
 match lI t path p with
 | none=> none
 | some x=> if gZ x cp ru=0 then some x else none
theorem ac3 (m p:MRe) (cp:Int) (ru:Bool) (path:List Int) (bP:Option Addr) (pc:Nat) (w:World) (aj:m.aK w) (cV:p.aK w) (hin:hr w bP path) (hl:path.length≤1000000) (ad:m.ab.bm≤1000000) (KO:p.ab.bm≤1000000):
  Calls Tryz.prog 62 #[fV m cp ru,M bP path.length pc,p.val] w (n3 w cp ru (F (sr m.ab cp ru path p.ab).isSome) (sr m.ab cp ru path p.ab)):=by
 obtain ⟨U,cd⟩:∃ U,U=w.heap.size:=⟨_,rfl⟩;obtain ⟨aE,cz⟩:∃ aE,aE=((w.alloc (.cells (m.row ++ [H J cp,Value.bool ru]).toArray 28)).alloc (.cells p.row.toArray 26)).alloc hN:=⟨_,rfl⟩;have cq:I [] w aE:=by rw [cz];exact I.a3 _ _ _ _
 have gg:aE.heap[U]? =some (.cells (m.row ++ [H J cp,Value.bool ru]).toArray 28 (0,0)):=by rw [cz,cd];exact (I.a2 _ _ _).heap (heap_alloc_new w _) (by simp)
 have iR:aE.heap[U + 1]? =some (.cells p.row.toArray 26 (0,0)):=by rw [cz,cd];exact (I.a1 _ _).heap (heap_alloc2_new w _ _) (by simp)
 have aW:aE.heap[U + 1 + 1]? =some hN:=by
  rw [cz,show U + 1 + 1=((w.alloc (.cells (m.row ++ [H J cp,Value.bool ru]).toArray 28)).alloc (.cells p.row.toArray 26)).heap.size by rw [cd];simp];exact heap_alloc_new _ _
 have eg:=C (Rv m p path bP pc aE (aj.ah cq) (cV.ah cq) (hin.bG cq (fun _ _=> by simp)) hl ad KO);obtain ⟨qu,uT⟩:∃ qu,qu=lI m.ab path p.ab:=⟨_,rfl⟩;obtain ⟨R,aY⟩:∃ R,R=sr m.ab cp ru path p.ab:=⟨_,rfl⟩;rw [←aY];unfold sr at aY;rw [←uT] at aY eg;have aD:=C aY;have aB:=C cd;have aH:=C cq;have ba:=C aW;obtain ⟨op1,aM,aN,set1,aS,kc1,aq,mn1,aI,mode1,n1,aL⟩:=m;obtain ⟨op2,cg,cf,bj,ct,kc2,a8,mn2,bY,bX,bn,bZ⟩:=p;have c7:=C (show aE=((w.alloc (.cells #[H J op1,M aM set1.length aN,M aS aq.length kc1,H J mn1,H J aI,H J mode1,H J n1,F aL,H J cp,F ru] 28)).alloc (bf op2 cg bj cf ct a8 kc2 mn2 bY bX bn bZ)).alloc hN from cz);simp only [MRe.val] at eg;obtain ⟨ar,c1,c2,an,av,ay,ax,az,au,dg,fh⟩:=fR (show aE.heap[U]? =some (.cells #[H J op1,M aM set1.length aN,M aS aq.length kc1,H J mn1,H J aI,H J mode1,H J n1,F aL,H J cp,F ru] 28 (0,0)) from gg);obtain ⟨bK,d1,d2,bL,bO,bT,bU,bV⟩:=eR (show aE.heap[U + 1]? =some (bf op2 cg bj cf ct a8 kc2 mn2 bY bX bn bZ) from iR)
 show Calls Tryz.prog 62 #[.agg #[H J op1,M aM set1.length aN,M aS aq.length kc1,H J mn1,H J aI,H J mode1,H J n1,F aL,H J cp,F ru],M bP path.length pc,.agg #[H J op2,M cg bj.length cf,M ct a8.length kc2,H J mn2,H J bY,H J bX,H J bn,F bZ]] w _
 clear cd cz cq gg iR aW aY aj cV hin ad KO fh uT;go_enter Tryz.func62,Tryz.ntmps62
 go_upto_region 1 with fail
 rw [←c7.o,←aB.o];go_wp2_with fail
 refine Calls.mono eg.o ?_;rintro e w2 ⟨ae,rfl,a7,aT,hk2,hqf⟩;have aU:=C hk2;have Fg:=hk2.c au;have J2:=hk2.c dg;have dK:=C a7;have dA:=C aT;have Qy:=C (show ∀ b∈ae.aw,U + 1 + 1 < b from fun b ad=> by
  rcases hqf b ad with h | h
  ·cases h
  ·have:=lt_of_block ba.o;omega)
 clear hk2 a7 aT hqf ar c1 c2 an av ay ax az au dg bK d1 d2 bL bO bT bU bV;obtain ⟨q0,bN⟩:∃ q0,q0=ae:=⟨_,rfl⟩;rw [←bN] at dK dA Qy;have dt:=C bN;obtain ⟨bA,bB,bC,bD,bs,bt,bu,bo,bx,bw,bp,bz⟩:=ae;simp only [MRe.val];clear bN;go_upto_region 2 with fail
 obtain ⟨ak,cY⟩:∃ ak,ak=w2.alloc (bf bA bB bD bC bs bu bt bo bx bw bp bz):=⟨_,rfl⟩;obtain ⟨pk,tU⟩:∃ pk,pk=w2.heap.size:=⟨_,rfl⟩;have dh:I [] w2 ak:=by rw [cY];exact I.a1 _ _
 have Aa:ak.heap[pk]? =some (bf bA bB bD bC bs bu bt bo bx bw bp bz):=by rw [cY,tU];exact heap_alloc_new w2 _
 have yl:=C Aa;rw [←cY,←tU];have dG:=C (aU.o.trans dh);have wF:=C (dA.o.ah dh);have RD:=dh.c Fg;have Xp:=dh.c J2;have A6:=C (dG.o.h ba.o);clear cY tU dh Aa Fg J2
 cases qu with
 | none=>
  have ga:=C (show R=none by rw [aD.o]);have ho:=C (pe A6.o (H J 0) (M none 0 0) (M none 0 0) (H J 0) (H J 0) (H J 0) (H J 0) (F false) (H J 0) (F false));have fZ:=C ((aH.o.trans dG.o).cn (pf ak (U + 1 + 1) (H J 0) (M none 0 0) (M none 0 0) (H J 0) (H J 0) (H J 0) (H J 0) (F false) (H J 0) (F false)) (by intro x hx;simp at hx;subst hx;exact .inr (by have:=aB.o;omega)));obtain ⟨z0,z1,z2,z3,z4,z5,b9,cc,qf,z9,cj⟩:=fR A6.o;simp only [Option.isSome_none,Bool.false_eq_true,if_false];go_wp2;refine bodyPost_ret (qb rfl _ _ (U + 1 + 1) 28 #[H J 0,M none 0 0,M none 0 0,H J 0,H J 0,H J 0,H J 0,F false,H J 0,F false] (0,0) _ rfl ho.o Tryz.underlying28 rfl kO) rfl ?_;exact n3.dL ga.o (by rw [ga.o];rfl) fZ.o
 | some x=>
  simp only [Option.isSome_some,if_true];obtain ⟨bg,aV,a6,bl,bq,bE,bF,bH⟩:=eR yl.o;go_upto_region 5 with fail
  obtain ⟨eu,nM⟩:∃ eu,eu=ak.alloc (.cells #[H J bA,M bB bD.length bC,M bs bu.length bt,H J bo,H J bx,H J bw,H J bp,F bz,H J cp,F ru] 28):=⟨_,rfl⟩;obtain ⟨qh,sj⟩:∃ qh,qh=ak.heap.size:=⟨_,rfl⟩;have i4:I [] ak eu:=by rw [nM];exact I.a1 _ _
  have nN:eu.heap[qh]? =some (.cells #[H J bA,M bB bD.length bC,M bs bu.length bt,H J bo,H J bx,H J bw,H J bp,F bz,H J cp,F ru] 28 (0,0)):=by rw [nM,sj];exact heap_alloc_new ak _
  have AT:=C nN;rw [←nM,←sj];have kT:=C (dG.o.trans i4);have MK:=C (wF.o.ah i4);clear nM sj i4 nN RD Xp bg aV a6 bl bq bE bF bH A6 wF dG yl;obtain ⟨bg,aV,a6,bl,bq,bE,bF,bH,jz,jA,tp⟩:=fR AT.o;have kR:=C (show Calls Tryz.prog 59 #[.agg #[H J bA,M bB bD.length bC,M bs bu.length bt,H J bo,H J bx,H J bw,H J bp,F bz,H J cp,F ru]] eu fun e w'=> e=.returned (H J (gZ x cp ru))∧I [] eu w' from by
   have h:=Nn q0 cp ru eu MK.o;rw [dK.o,dt.o] at h;exact h)
  obtain ⟨v,da⟩:∃ v,v=gZ x cp ru:=⟨_,rfl⟩;rw [←da] at kR;have xw:=C (show R=if v=0 then some x else none by rw [aD.o,da]);clear da aD;go_wp2_with fail
  refine Calls.mono kR.o ?_;rintro e bS ⟨rfl,hk5⟩;have dr:=C (kT.o.trans hk5);have lz:=C (dr.o.h ba.o);have afB:=C (MK.o.ah hk5);have lg:=hk5.h AT.o;clear hk5 bg aV a6 bl bq bE bF bH jz jA tp
  by_cases da:v=0
  ·subst da;have oN:=C (show R=some x by rw [xw.o,if_pos rfl]);obtain ⟨bg,aV,a6,bl,bq,bE,bF,bH,jz,jA,tp⟩:=fR lg;have ho:=C (pe lz.o (H J bA) (M bB bD.length bC) (M bs bu.length bt) (H J bo) (H J bx) (H J bw) (H J bp) (F bz) (H J cp) (F ru));have c3:=pf bS (U + 1 + 1) (H J bA) (M bB bD.length bC) (M bs bu.length bt) (H J bo) (H J bx) (H J bw) (H J bp) (F bz) (H J cp) (F ru);have fZ:=C ((aH.o.trans dr.o).cn c3 (by intro x hx;simp at hx;subst hx;exact .inr (by have:=aB.o;omega)));have Jo:=C (afB.o.bG c3 fun b ad=> by have:=Qy.o b ad;simp;omega);obtain ⟨z0,z1,z2,z3,z4,z5,b9,cc,qf,z9,cj⟩:=fR lz.o;clear c3 lg;go_wp2;refine bodyPost_ret (qb rfl _ _ (U + 1 + 1) 28 #[H J bA,M bB bD.length bC,M bs bu.length bt,H J bo,H J bx,H J bw,H J bp,F bz,H J cp,F ru] (0,0) _ rfl ho.o Tryz.underlying28 rfl kO) rfl ?_;exact n3.iI q0 (by rw [oN.o,dK.o];rfl) (by rw [oN.o,dt.o];rfl) Jo.o fZ.o (fun b ad=> by have:=Qy.o b ad;have:=aB.o;omega)
  ·have ga:=C (show R=none by rw [xw.o,if_neg da]);have Bt:(v !=0)=true:=by simpa using da
   have ho:=C (pe lz.o (H J 0) (M none 0 0) (M none 0 0) (H J 0) (H J 0) (H J 0) (H J 0) (F false) (H J 0) (F false));have fZ:=C ((aH.o.trans dr.o).cn (pf bS (U + 1 + 1) (H J 0) (M none 0 0) (M none 0 0) (H J 0) (H J 0) (H J 0) (H J 0) (F false) (H J 0) (F false)) (by intro x hx;simp at hx;subst hx;exact .inr (by have:=aB.o;omega)));obtain ⟨z0,z1,z2,z3,z4,z5,b9,cc,qf,z9,cj⟩:=fR lz.o;clear lg;go_wp2;refine bodyPost_ret (qb rfl _ _ (U + 1 + 1) 28 #[H J 0,M none 0 0,M none 0 0,H J 0,H J 0,H J 0,H J 0,F false,H J 0,F false] (0,0) _ rfl ho.o Tryz.underlying28 rfl kO) rfl ?_;exact n3.dL ga.o (by rw [ga.o];rfl) fZ.o
def tA (t:Tree):Tree:=t.kids.getD 0 .nil
def x8 (x y:Tree):Bool:=oI x && (iQ x y && !fA (tA x))
def x2 (x y:Tree):Bool:=sg x.op x.mn x.mx x.mode 0 1 && (oI y && (iQ (tA x) (tA y) && !fA (tA x)))
def y9 (x y:Tree):Bool:=oI y && iQ x (tA y)
def s6 (t:Tree):Tree:=t.kids.getD (t.kids.length - 1) .nil
def zi (x y:Tree):Bool:=x.op==2 && (y.op==2 && iQ (s6 x) (s6 y))
theorem X1 {op mn mx mode a b:Int} (h:sg op mn mx mode a b=true):op=4:=by
 simp only [sg,Bool.and_eq_true,beq_iff_eq] at h;exact h.1
theorem Pp {t:Tree} (h:oI t=true):t.op=4:=X1 h
theorem Gy {m:MRe} {w:World} (aj:m.aK w) (aJ:m.ab.dE) (h:m.ab.op=4) {op sa sc set ka kc kids mn mx mode n neg} (hm:m=.node op sa sc set ka kc kids mn mx mode n neg):
  ∃ (b off:Nat) (k:MRe),ka=some ⟨b,off,none⟩∧k∈kids∧fb w b off k∧k.aK w∧tA m.ab=k.ab∧0 < kids.length∧(0:Int) < (kids.length:Int):=by
 subst hm;have hl:kids.length=1:=(kB aJ).hone (.inl h);obtain ⟨b,off,k,h1,h2,h3,h4,h5⟩:=aj.kids.head (by omega);obtain ⟨r,aO⟩:=oJ h3;refine ⟨b,off,k,h1,h2,h4,h5,?_,by omega,by omega⟩
 show (MRe.al kids).getD 0 .nil=k.ab
 rw [aO];rfl
theorem an9 (m1 m2:MRe) (w:World) (aj:m1.aK w) (cV:m2.aK w) (aJ:m1.ab.dE):
  Calls Tryz.prog 127 #[m1.val,m2.val] w fun e w'=> e=.returned (F (x8 m1.ab m2.ab))∧I [] w w':=by
 have cW:=fun W=> Mf m1 W;have gw:=fun W (h:I [] w W)=> Hx m1 m2 W (aj.ah h) (cV.ah h);have h4:=fun h=> Pp (t:=m1.ab) h;unfold x8;obtain ⟨s,hs⟩:∃ s,s=oI m1.ab:=⟨_,rfl⟩;obtain ⟨ae,hq⟩:∃ ae,ae=iQ m1.ab m2.ab:=⟨_,rfl⟩;simp only [←hs] at cW h4 ⊢;simp only [←hq] at gw ⊢;clear hs hq
 cases s with
 | false=>
  simp only [Bool.false_and];obtain ⟨op1,aM,aN,set1,aS,kc1,aq,mn1,aI,mode1,n1,aL⟩:=m1;obtain ⟨op2,cg,cf,bj,ct,kc2,a8,mn2,bY,bX,bn,bZ⟩:=m2;simp only [MRe.val] at cW ⊢;have cW:=C cW;clear gw h4 aj cV aJ;obtain ⟨U,aA,ar,c1,c2,an,av,ay,ax,az,bK,d1,d2,bL,bO,bT,bU,bV,dw,aB,aZ⟩:=nc w op1 aM aN set1 aS kc1 aq mn1 aI mode1 n1 aL op2 cg cf bj ct kc2 a8 mn2 bY bX bn bZ;go_enter Tryz.func127,Tryz.ntmps127
  go_upto_region 1 with fail
  rw [←dw.o,←aB.o];go_wp2_with fail
  refine Calls.mono (cW.o _) ?_;rintro e w2 ⟨rfl,hk2⟩;have aU:=C (aZ.o.trans hk2);clear hk2;go_wp2;go_ret;exact ⟨rfl,aU.o⟩
 | true=>
  simp only [Bool.true_and];replace h4:=h4 rfl
  cases ae with
  | false=>
   simp only [Bool.false_and];obtain ⟨op1,aM,aN,set1,aS,kc1,aq,mn1,aI,mode1,n1,aL⟩:=m1;obtain ⟨op2,cg,cf,bj,ct,kc2,a8,mn2,bY,bX,bn,bZ⟩:=m2;simp only [MRe.val] at cW gw ⊢;have cW:=C cW;have gw:=C gw;clear h4 aj cV aJ;obtain ⟨U,aA,ar,c1,c2,an,av,ay,ax,az,bK,d1,d2,bL,bO,bT,bU,bV,dw,aB,aZ⟩:=nc w op1 aM aN set1 aS kc1 aq mn1 aI mode1 n1 aL op2 cg cf bj ct kc2 a8 mn2 bY bX bn bZ;go_enter Tryz.func127,Tryz.ntmps127
   go_upto_region 1 with fail
   rw [←dw.o,←aB.o];go_wp2_with fail
   refine Calls.mono (cW.o _) ?_;rintro e w2 ⟨rfl,hk2⟩;have aU:=C (aZ.o.trans hk2);obtain ⟨u0,u1,u2,u3,u4,u5,u6,u7⟩:=hk2.au ar c1 c2 an av ay ax az;obtain ⟨v0,v1,v2,v3,v4,v5,v6,v7⟩:=hk2.au bK d1 d2 bL bO bT bU bV;clear hk2 ar c1 c2 an av ay ax az bK d1 d2 bL bO bT bU bV;go_wp2_with fail
   refine Calls.mono (gw.o _ aU.o) ?_;rintro e w3 ⟨rfl,aP⟩;have aR:=C (aU.o.trans aP);clear aP;go_wp2;go_ret;exact ⟨rfl,aR.o⟩
  | true=>
   simp only [Bool.true_and];obtain ⟨bW,cQ⟩:∃ bW,bW=m1:=⟨_,rfl⟩;rw [←cQ] at aj aJ h4 ⊢;have hA:=cQ;obtain ⟨op1,aM,aN,set1,aS,kc1,aq,mn1,aI,mode1,n1,aL⟩:=m1;obtain ⟨op2,cg,cf,bj,ct,kc2,a8,mn2,bY,bX,bn,bZ⟩:=m2;obtain ⟨b3,iV,fk,Af,n7,mI,mJ,il,l7,hln⟩:=Gy aj aJ h4 hA;have hK:=fun (W:World) (h:I [] w W)=> Ej fk W (mJ.ah h);rw [il];obtain ⟨z,aW⟩:∃ z,z=fA fk.ab:=⟨_,rfl⟩;simp only [←aW] at hK ⊢;obtain ⟨op3,dk,dm,set3,di,dj,kids3,cA,cC,cB,cv,cx⟩:=fk;have g:=mI.node;obtain ⟨bg,aV,a6,bl,bq,bE,bF,bH⟩:=id g;rw [cQ];simp only [MRe.val] at cW gw hK ⊢;have cW:=C cW;have gw:=C gw;have hK:=C hK;obtain ⟨U,aA,ar,c1,c2,an,av,ay,ax,az,bK,d1,d2,bL,bO,bT,bU,bV,dw,aB,aZ⟩:=nc w op1 aM aN set1 aS kc1 aq mn1 aI mode1 n1 aL op2 cg cf bj ct kc2 a8 mn2 bY bX bn bZ;obtain ⟨dv,dI,ea,fo,gO,ha,hb,hd⟩:=aZ.o.au bg aV a6 bl bq bE bF bH;subst Af;clear g bg aV a6 bl bq bE bF bH h4 aj cV aJ hA cQ n7 mI mJ il aW;go_enter Tryz.func127,Tryz.ntmps127
   go_upto_region 1 with fail
   rw [←dw.o,←aB.o];go_wp2_with fail
   refine Calls.mono (cW.o _) ?_;rintro e w2 ⟨rfl,hk2⟩;have aU:=C (aZ.o.trans hk2);obtain ⟨u0,u1,u2,u3,u4,u5,u6,u7⟩:=hk2.au ar c1 c2 an av ay ax az;obtain ⟨v0,v1,v2,v3,v4,v5,v6,v7⟩:=hk2.au bK d1 d2 bL bO bT bU bV;obtain ⟨c6,y1,dp,eb,ef,ej,ek,el⟩:=hk2.au dv dI ea fo gO ha hb hd;clear hk2 ar c1 c2 an av ay ax az bK d1 d2 bL bO bT bU bV dv dI ea fo gO ha hb hd;go_wp2_with fail
   refine Calls.mono (gw.o _ aU.o) ?_;rintro e w3 ⟨rfl,aP⟩;have aR:=C (aU.o.trans aP);obtain ⟨ar,c1,c2,an,av,ay,ax,az⟩:=aP.au u0 u1 u2 u3 u4 u5 u6 u7;obtain ⟨dv,dI,ea,fo,gO,ha,hb,hd⟩:=aP.au c6 y1 dp eb ef ej ek el;clear aP u0 u1 u2 u3 u4 u5 u6 u7 v0 v1 v2 v3 v4 v5 v6 v7 c6 y1 dp eb ef ej ek el;go_wp2_with fail
   refine Calls.mono (hK.o _ aR.o) ?_;rintro e w4 ⟨rfl,bc⟩;have cl:=C (aR.o.trans bc);clear bc
   cases z with
   | true=>
    go_wp2;go_ret;exact ⟨rfl,cl.o⟩
   | false=>
    go_wp2;go_ret;exact ⟨rfl,cl.o⟩
end Go.Proofs.YtjnlkjlbejelgaaGreat
