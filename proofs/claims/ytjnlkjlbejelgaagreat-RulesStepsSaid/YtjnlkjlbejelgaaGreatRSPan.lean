/- Part of the proof. No condition: every lemma says its own. -/
import Derived.Test.YtjnlkjlbejelgaaGreatRSPam
namespace Go.Proofs.YtjnlkjlbejelgaaGreat
open Go.RowKit
open Go.Value renaming int→H,slice→M,bool→F
open Go.IntKind renaming i64→J
set_option maxRecDepth 100000
set_option maxHeartbeats 16000000
def pL (w:World) (src:List Nat) (Dw:Int) (o:Option Tree) (e:Ending) (w':World):Prop:=
 ∃ m:MRe,e=.returned (.tuple #[m.val,H J (if o.isSome then 0 else Dw)])∧m.ab=o.getD .nil∧m.aK w'∧I [] w w'∧du w.heap.size src m.aw
theorem pL.iI {w:World} {src:List Nat} {Dw:Int} {o:Option Tree} {e:Ending} {w':World} (r:MRe) (h:o=some r.ab) (he:e=.returned (.tuple #[r.val,H J 0])) (aO:r.aK w') (hk:I [] w w') (ad:du w.heap.size src r.aw):pL w src Dw o e w':=by subst h;exact ⟨r,he,rfl,aO,hk,ad⟩
theorem pL.dL {w:World} {src:List Nat} {Dw:Int} {o:Option Tree} {e:Ending} {w':World} (h:o=none) (he:e=.returned (.tuple #[MRe.nil.val,H J Dw])) (hk:I [] w w'):pL w src Dw o e w':=by
 subst h;exact ⟨MRe.nil,he,rfl,MRe.aK.nil _,hk,by intro b ad;simp [MRe.nil,MRe.aw,MRe.dN,df] at ad⟩
theorem hr.tail {w:World} {b o pc:Nat} {x:Int} {r:List Int} (h:hr w (some ⟨b,o,none⟩) (x::r)) (hc:r.length + 1≤pc):hr w (if pc=1 then some ⟨b,o,none⟩ else some ⟨b,o + 1,none⟩) r:=fun h0=> by
 obtain ⟨iw,Gn,he,hx⟩:=h (by simp)
 cases he
 rw [if_neg (by omega)];refine ⟨b,o + 1,rfl,fun j c8=> ?_⟩
 have:=hx (j + 1) (by simpa using c8)
 rw [Nat.add_assoc,Nat.add_comm 1 j,this]
 simp
theorem UK (path:List Int):∀ (m:MRe) (bP:Option Addr) (pc:Nat) (w:World),m.aK w→hr w bP path→path.length≤pc→path.length≤1000000→
  Calls Tryz.prog 10 #[m.val,M bP path.length pc] w (pL w m.aw 7 (jW m.ab path)):=by
 induction path with
 | nil=>
  intro m bP pc w aj hin hc hl;have eU:=C aj.fi;obtain ⟨R,aC⟩:∃ R,R=jW m.ab []:=⟨_,rfl⟩;rw [←aC];obtain ⟨op,sa,sc,set,ka,kc,kids,mn,mx,mode,n,neg⟩:=m;have aD:=C (show R=some (MRe.ab (.node op sa sc set ka kc kids mn mx mode n neg)) by rw [aC,jW]);obtain ⟨U,aE,aB,c7,bI,ba,cZ,aH⟩:=rS w op sa sc set ka kc kids mn mx mode n neg;have gD:=C (aj.ah aH.o);clear aC hin aj cZ hc hl;simp only [MRe.val,List.length_nil];obtain ⟨ar,c1,c2,an,av,ay,ax,az⟩:=bI.o.ez;go_enter Tryz.func10,Tryz.ntmps10
  go_upto_region 1 with fail
  rw [←c7.o,←aB.o];obtain ⟨z0,z1,z2,z3,z4,z5,b9,cc,cj⟩:=ew ba.o;obtain ⟨eo,ey,fS,fT⟩:=Ga (nd aB.o aH.o (I.refl [] aE) ba.o gD.o (du.refl _ _) eU.o);go_wp2;refine rt eo.o ?_;exact pL.iI (.node op sa sc set ka kc kids mn mx mode n neg) aD.o rfl ey.o fS.o fT.o
 | cons x r ih=>
  intro m bP pc w aj hin hc hl;have eU:=C aj.fi;have P2:=C ih;obtain ⟨R,aC⟩:∃ R,R=jW m.ab (x::r):=⟨_,rfl⟩;rw [←aC];obtain ⟨nQ,j0,rfl,hpx⟩:=hin (by simp);have fQ:=hpx 0 (by simp);rw [Nat.add_zero,List.getD_cons_zero] at fQ;have jC:(x::r).length=r.length + 1:=rfl;rw [jC] at hc hl ⊢;have ys:=C (show nQ < w.heap.size from World.block_lt_of_cell? _ _ fQ);have nm:=C (hin.tail (pc:=pc) hc);obtain ⟨op,sa,sc,set,ka,kc,kids,mn,mx,mode,n,neg⟩:=m;replace aC:R=if 0≤x∧x < (MRe.al kids).length then jW ((MRe.al kids).getD x.toNat .nil) r else none:=by rw [aC,jW];rfl
  rw [MRe.ee] at aC;have hcap:=aj.ch.cap;have fc:=aj.ch.le;unfold maxLen at hcap;have b6:=C aj.kids;obtain ⟨U,aE,aB,c7,bI,ba,cZ,aH⟩:=rS w op sa sc set ka kc kids mn mx mode n neg;have hC:=C cZ;have q0:=aH.o.c fQ;clear ih hpx hin fQ jC cZ;simp only [MRe.val]
  by_cases hx:0≤x∧x < kids.length
  ·obtain ⟨eD,mi⟩:=hx;obtain ⟨i,rfl⟩:∃ i:Nat,x=(i:Int):=⟨x.toNat,by omega⟩;have hi:i < kids.length:=by omega
   have S6:¬ (kids.length:Int)≤(i:Int):=by omega
   have pw:¬ (i:Int) < 0:=by omega
   rw [if_pos ⟨eD,mi⟩,Int.toNat_natCast,show (MRe.al kids).getD i .nil=(kids[i]'hi).ab by rw [List.getD_eq_getElem?_getD,List.getElem?_eq_getElem (by rw [MRe.ee];omega),Option.getD_some,kQ]] at aC;obtain ⟨b,off,rfl,lk,hkx⟩:=aj.kids.ch.dy (by omega);have xS:kids[i]'hi∈kids:=List.getElem_mem hi;have vA:=C (show ∀ x∈(kids[i]'hi).aw,x∈(MRe.node op sa sc set (some ⟨b,off,none⟩) kc kids mn mx mode n neg).aw from mF xS);have C9:=C (aj.dy xS);have uf:=hkx i hi;have nz:=C lk;obtain ⟨oF,DU⟩:∃ oF,oF=(kids[i]'hi):=⟨_,rfl⟩;rw [←DU] at vA C9 uf aC;obtain ⟨T,hT⟩:∃ T,T=oF.ab:=⟨_,rfl⟩;rw [←hT] at aC;have iU:=fun (W:World) (h:I [] w W)=> P2.o oF (if pc=1 then some ⟨nQ,j0,none⟩ else some ⟨nQ,j0 + 1,none⟩) (pc - 1) W (C9.o.ah h) (nm.o.bG h (fun _ _=> by simp)) (by omega) (by omega);rw [←hT] at iU;rw [←aC] at iU;obtain ⟨src,o1⟩:∃ src,src=oF.aw:=⟨_,rfl⟩;simp only [←o1] at iU;have A4:=C (show ∀ x∈src,x∈(MRe.node op sa sc set (some ⟨b,off,none⟩) kc kids mn mx mode n neg).aw by rw [o1];exact vA.o);have dd:∀ W:World,(Instr.sliceAt 22 (M (some ⟨nQ,j0,none⟩) (r.length + 1) pc) (some (H J 1)) none none).run Tryz.prog W=.ok (M (if pc=1 then some ⟨nQ,j0,none⟩ else some ⟨nQ,j0 + 1,none⟩) r.length (pc - 1)) W:=by
    intro W;have q1:¬ ((r.length:Int) + 1 < 1):=by omega
    simp [go_sem,q1]
   obtain ⟨Gr,FR⟩:∃ Gr,Gr=(if pc=1 then some (⟨nQ,j0,none⟩:Addr) else some ⟨nQ,j0 + 1,none⟩):=⟨_,rfl⟩;rw [←FR] at dd;simp only [←FR] at iU;obtain ⟨op1,aM,aN,set1,aS,kc1,aq,mn1,aI,mode1,n1,aL⟩:=oF;have g:=uf.node;obtain ⟨bg,aV,a6,bl,bq,bE,bF,bH⟩:=id g;obtain ⟨ep,aJ,cP,eM,eF,eN,eO,eP⟩:=aH.o.au bg aV a6 bl bq bE bF bH;simp only [MRe.val] at iU;have iU:=C iU;clear g bg aV a6 bl bq bE bF bH hkx xS DU uf hT o1 aC aj lk FR hi;have hin:i < kids.length:=by omega
   have Ag:((r.length:Int) + 1==0)=false:=by simp;omega
   obtain ⟨ar,c1,c2,an,av,ay,ax,az⟩:=bI.o.ez;go_enter Tryz.func10,Tryz.ntmps10
   go_upto_region 1 with fail
   rw [←c7.o,←aB.o];go_wp2_with fail
   refine rg (S:=fun w'=> w'.cell? ⟨U,2,none⟩=some (M (some ⟨b,off,none⟩) kids.length kc)∧w'.cell? ⟨nQ,j0,none⟩=some (H J i)) (fun _ k=> ⟨k.c c2,k.c q0⟩) fun bM aF=> ?_;refine ag 0 ?_;refine ag 1 ?_;refine ag 2 ?_;refine ag 3 ?_;refine ag 4 ?_;refine ag 5 ?_;refine ag 6 ?_;refine ag 7 ?_;refine ag 8 ?_;refine ag 9 ?_;refine ag 10 ?_;refine ag 11 ?_;refine ag 12 ?_;refine dR ?_;obtain ⟨W,kG⟩:∃ W,W=aE.drew:=⟨_,rfl⟩;rw [←kG];have aR:=C (show I [] aE W by rw [kG];exact (I.refl [] aE).drew);have v2:=aR.o.c c2;have t0:=aR.o.c q0;obtain ⟨g0,g1,g2,g3,kx,k4,dz,kE⟩:=aR.o.au ep aJ cP eM eF eN eO eP;clear aF kG ar c1 c2 an av ay ax az q0 ep aJ cP eM eF eN eO eP;go_wp2_with fail
   refine rg (S:=fun w'=> w'.cell? ⟨U,2,none⟩=some (M (some ⟨b,off,none⟩) kids.length kc)∧w'.cell? ⟨nQ,j0,none⟩=some (H J i)∧w'.cell? ⟨b,off + i * 8,none⟩=some (H J op1)∧w'.cell? ⟨b,off + i * 8 + 1,none⟩=some (M aM set1.length aN)∧w'.cell? ⟨b,off + i * 8 + 2,none⟩=some (M aS aq.length kc1)∧w'.cell? ⟨b,off + i * 8 + 3,none⟩=some (H J mn1)∧w'.cell? ⟨b,off + i * 8 + 4,none⟩=some (H J aI)∧w'.cell? ⟨b,off + i * 8 + 5,none⟩=some (H J mode1)∧w'.cell? ⟨b,off + i * 8 + 6,none⟩=some (H J n1)∧w'.cell? ⟨b,off + i * 8 + 7,none⟩=some (F aL)) (fun _ k=> ⟨k.c v2,k.c t0,k.c g0,k.c g1,k.c g2,k.c g3,k.c kx,k.c k4,k.c dz,k.c kE⟩) fun bM aF=> ?_;refine ag 0 ?_;refine ag 1 ?_;refine ag 2 ?_;refine ag 3 ?_;refine ag 4 ?_;refine ag 5 ?_;refine ag 6 ?_;refine ag 7 ?_;refine ag 8 ?_;refine bh 9 fun ai af=> ?_;go_simp;refine Calls.mono (iU.o _ (aH.o.trans aR.o.drew)) ?_;rintro e fN ⟨ae,rfl,a7,aT,cU,hqf⟩;have pM:=C (((I.refl [] W).drew).trans cU);have gu:=C (aR.o.drew.trans cU);have dK:=C a7;have dA:=C aT;have et:=C hqf;obtain ⟨q0,bN⟩:∃ q0,q0=ae:=⟨_,rfl⟩;rw [←bN] at dK dA et;have dt:=C bN;clear a7 aT cU hqf bN;obtain ⟨bA,bB,bC,bD,bs,bt,bu,bo,bx,bw,bp,bz⟩:=ae;obtain ⟨sL,rJ⟩:∃ sL:Int,sL=(if R.isSome then 0 else 7):=⟨_,rfl⟩;simp only [MRe.val,←rJ];have I9:=C rJ;clear rJ;refine af.out _ _ (bM.o _ pM.o) fun aF=> ?_;clear af ai;try go_frame
   refine ag 10 ?_;refine ag 11 ?_;obtain ⟨z0,z1,z2,z3,z4,z5,b9,cc,cj⟩:=ew (gu.o.h ba.o);have hfr:=vp (lo:=U + 2) (src:=(MRe.node op sa sc set (some ⟨b,off,none⟩) kc kids mn mx mode n neg).aw) (add:=[]) (fun y hy=> by
    rcases et.o y hy with h | h
    ·exact .inl (by rw [List.append_nil];exact A4.o y h)
    ·exact .inr h) (fun _ h=> by simp at h) (Nat.le_trans hC.o aR.o.size)
   rw [dt.o] at hfr;obtain ⟨aY,cm,fy,gB⟩:=nd aB.o aH.o gu.o ba.o (by rw [←dt.o];exact dA.o) hfr eU.o;have eo:=C aY;have ey:=C cm;have fS:=C fy;have fT:=C gB;have bk:=C (jv fN (U + 1) (H J bA) (M bB bD.length bC) (M bs bu.length bt) (H J bo) (H J bx) (H J bw) (H J bp) (F bz));have mM:nQ≠U + 1:=by have:=ys.o;have:=aB.o;omega
   have hbl:b≠U + 1:=by have:=nz.o;have:=aB.o;omega
   clear hfr aY cm fy gB;refine bh 12 fun ai af=> ?_;go_simp;refine af.out _ _ (⟨bk.o.cell (pM.o.c v2) (by simp),bk.o.cell (pM.o.c t0) (by simp;exact mM),bk.o.cell (pM.o.c g0) (by simp;exact hbl),bk.o.cell (pM.o.c g1) (by simp;exact hbl),bk.o.cell (pM.o.c g2) (by simp;exact hbl),bk.o.cell (pM.o.c g3) (by simp;exact hbl),bk.o.cell (pM.o.c kx) (by simp;exact hbl),bk.o.cell (pM.o.c k4) (by simp;exact hbl),bk.o.cell (pM.o.c dz) (by simp;exact hbl),bk.o.cell (pM.o.c kE) (by simp;exact hbl)⟩) (fun aF=> ?_);clear af ai;try go_frame
   refine ag 13 ?_;refine dR ?_;clear v2 t0 g0 g1 g2 g3 kx k4 dz kE z0 z1 z2 z3 z4 z5 b9 cc cj aF mM hbl;go_wp2;refine rt eo.o ?_;exact ⟨.node bA bB bC bD bs bt bu bo bx bw bp bz,by rw [I9.o];rfl,by rw [←dt.o,dK.o],ey.o,fS.o,fT.o⟩
  ·have aD:=C (show R=none by rw [aC,if_neg hx]);have Ag:((r.length:Int) + 1==0)=false:=by simp;omega
   clear aC aj
   by_cases hxn:x < 0
   ·have Ia:decide (x < 0)=true:=by simpa using hxn
    clear hx;obtain ⟨ar,c1,c2,an,av,ay,ax,az⟩:=bI.o.ez;go_enter Tryz.func10,Tryz.ntmps10
    go_upto_region 1 with fail
    rw [←c7.o,←aB.o];go_wp2_with fail
    refine rg (S:=fun w'=> w'.cell? ⟨U,2,none⟩=some (M ka kids.length kc)∧w'.cell? ⟨nQ,j0,none⟩=some (H J x)) (fun _ k=> ⟨k.c c2,k.c q0⟩) fun bM aF=> ?_;refine ag 0 ?_;refine ag 1 ?_;refine ag 2 ?_;refine ag 3 ?_;refine ag 4 ?_;refine c9 5 ?_;refine c9 6 ?_;refine c9 7 ?_;refine c9 8 ?_;refine c9 9 ?_;refine c9 10 ?_;refine c9 11 ?_;refine ag 12 ?_;refine dR ?_;obtain ⟨W,kG⟩:∃ W,W=aE.drew:=⟨_,rfl⟩;rw [←kG];have aR:=C (show I [] aE W by rw [kG];exact (I.refl [] aE).drew);clear aF kG ar c1 c2 an av ay ax az q0;obtain ⟨z0,z1,z2,z3,z4,z5,b9,cc,cj,cw,bQ⟩:=gR aB.o aH.o aR.o ba.o;go_wp2;refine rt cw.o ?_;exact pL.dL aD.o rfl bQ.o
   ·have Oy:(kids.length:Int)≤x:=by omega
    have Ia:decide (x < 0)=false:=by simpa using hxn
    have akS:decide ((kids.length:Int)≤x)=true:=by simpa using Oy
    clear hx;obtain ⟨ar,c1,c2,an,av,ay,ax,az⟩:=bI.o.ez;go_enter Tryz.func10,Tryz.ntmps10
    go_upto_region 1 with fail
    rw [←c7.o,←aB.o];go_wp2_with fail
    refine rg (S:=fun w'=> w'.cell? ⟨U,2,none⟩=some (M ka kids.length kc)∧w'.cell? ⟨nQ,j0,none⟩=some (H J x)) (fun _ k=> ⟨k.c c2,k.c q0⟩) fun bM aF=> ?_;refine ag 0 ?_;refine ag 1 ?_;refine ag 2 ?_;refine ag 3 ?_;refine ag 4 ?_;refine ag 5 ?_;refine ag 6 ?_;refine ag 7 ?_;refine ag 8 ?_;refine ag 9 ?_;refine ag 10 ?_;refine ag 11 ?_;refine ag 12 ?_;refine dR ?_;obtain ⟨W,kG⟩:∃ W,W=aE.drew:=⟨_,rfl⟩;rw [←kG];have aR:=C (show I [] aE W by rw [kG];exact (I.refl [] aE).drew);clear aF kG ar c1 c2 an av ay ax az q0;obtain ⟨z0,z1,z2,z3,z4,z5,b9,cc,cj,cw,bQ⟩:=gR aB.o aH.o aR.o ba.o;go_wp2;refine rt cw.o ?_;exact pL.dL aD.o rfl bQ.o
def Dp (w:World) (src:List Nat) (t:Tree) (e:Ending) (w':World):Prop:=∃ m:MRe,e=.returned m.val∧m.ab=t∧m.aK w'∧I [] w w'∧du w.heap.size src m.aw
theorem Dp.hR {w:World} {src:List Nat} {t:Tree} {e:Ending} {w':World} (r:MRe) (h:r.ab=t) (he:e=.returned r.val) (aO:r.aK w') (hk:I [] w w') (ad:du w.heap.size src r.aw):Dp w src t e w':=⟨r,he,h,aO,hk,ad⟩
def ze:Tree→List Tree→Tree
 | .node op set _ mn mx mode n neg,ks=> .node op set ks mn mx mode n neg
def lI:Tree→List Int→Tree→Option Tree
 | _,[],p=> some p
 | t,x::r,p=> if 0≤x∧x < t.kids.length then (lI (t.kids.getD x.toNat .nil) r p).map fun k=> ze t (t.kids.take x.toNat ++ (k::t.kids.drop (x.toNat + 1))) else none
theorem UF {p:Tree}:∀ (path:List Int) {t ae:Tree},lI t path p=some ae→ae.bm≤t.bm + p.bm:=by
 intro path
 induction path with
 | nil=> intro t ae h;simp only [lI,Option.some.injEq] at h;subst h;omega
 | cons x r ih=>
  intro t ae h;rw [lI] at h
  split at h
  ·rename_i hx
   obtain ⟨k,hk,rfl⟩:=Option.map_eq_some_iff.1 h;have hi:x.toNat < t.kids.length:=by omega
   rw [List.getD_eq_getElem?_getD,List.getElem?_eq_getElem hi,Option.getD_some] at hk
   have:=ih hk
   cases t with
   | node op set kids mn mx mode n neg=>
    simp only [Tree.kids] at hi this ⊢;have aV:=Tree.Hs kids x.toNat;rw [List.drop_eq_getElem_cons hi] at aV;simp only [ze,Tree.bm,Tree.J0,Tree.ed] at aV ⊢;omega
  ·cases h
mutual
def ia:Tree→List (List Int)
 | .node _ _ kids _ _ _ _ _=> []::oH 0 kids
def oH:Int→List Tree→List (List Int)
 | _,[]=> []
 | i,k::ks=> (ia k).map (fun p=> i::p) ++ oH (i + 1) ks
end
theorem acI:∀ (l:List Tree) (i:Int) (k:Nat) (h:k < l.length),oH i (l.take (k + 1))=oH i (l.take k) ++ (ia l[k]).map fun p=> (i + k)::p:=by
 intro l
 induction l with
 | nil=> intro i k h;simp at h
 | cons x r ih=>
  intro i k h
  cases k with
  | zero=> simp [oH]
  | succ n=>
   have:=ih (i + 1) n (by simpa using h)
   simp only [List.take_succ_cons,oH,this,List.getElem_cons_succ,List.append_assoc];have e:i + 1 + (n:Int)=i + ((n + 1:Nat):Int):=by omega
   rw [e]
theorem x5:∀ t:Tree,(ia t).length=dD t∧∀ p∈ia t,p.length≤t.bm:=by
 intro t
 induction t using Tree.nq with
 | h op set kids mn mx mode n neg ih=>
  have hs:∀ (l:List Tree) (i:Int),(∀ k∈l,(ia k).length=dD k∧∀ p∈ia k,p.length≤k.bm)→(oH i l).length=dV l∧∀ p∈oH i l,p.length≤Tree.ed l + 1:=by
   intro l
   induction l with
   | nil=> intro i _;exact ⟨rfl,by simp [oH]⟩
   | cons x r ih2=>
    intro i h;obtain ⟨h1,h2⟩:=h x (by simp);obtain ⟨h3,h4⟩:=ih2 (i + 1) (fun k hk=> h k (by simp [hk]));refine ⟨by simp only [oH,List.length_append,List.length_map,h1,h3,dV],fun p hp=> ?_⟩;simp only [oH,List.mem_append,List.mem_map] at hp;simp only [Tree.ed]
    rcases hp with ⟨ae,hq,rfl⟩ | hp
    ·have:=h2 ae hq;simp only [List.length_cons];omega
    ·have:=h4 p hp;omega
  obtain ⟨h1,h2⟩:=hs kids 0 ih;refine ⟨by simp only [ia,List.length_cons,h1,dD];omega,fun p hp=> ?_⟩;simp only [ia,List.mem_cons] at hp;simp only [Tree.bm]
  rcases hp with rfl | hp
  ·simp
  ·have:=h2 p hp;omega
structure QY (op:Int) (set:List (Int × Int)) (nk:Nat) (mn:Int):Prop where
 mL:0≤op∧op≤11
 hone:op=4∨op=5∨op=7∨op=8∨op=9→nk=1
 Cz:op=4→0≤mn
 tx:op=1→lZ set
 HU:op≠1→set=[]
inductive Tree.q7:Tree→Prop
 | mk {op set kids mn mx mode n neg} (h:QY op set kids.length mn) (hk:∀ k,k∈kids→Tree.q7 k):Tree.q7 (.node op set kids mn mx mode n neg)
theorem Tree.q7.node {op set kids mn mx mode n neg} (h:Tree.q7 (.node op set kids mn mx mode n neg)):QY op set kids.length mn:=by cases h;assumption
theorem Tree.q7.dy {op set kids mn mx mode n neg} (h:Tree.q7 (.node op set kids mn mx mode n neg)) {k:Tree} (hk:k∈kids):k.q7:=by cases h with | mk _ h=> exact h k hk
theorem U4 {op sa sc set ka kc kids mn mx mode n neg} (h:(MRe.node op sa sc set ka kc kids mn mx mode n neg).ab.q7):QY op set kids.length mn:=by
 have:=h.node
 rw [MRe.ee] at this;exact this
theorem IE {op sa sc set ka kc kids mn mx mode n neg} (h:(MRe.node op sa sc set ka kc kids mn mx mode n neg).ab.q7) {k:MRe} (hk:k∈kids):k.ab.q7:=
 h.dy (by rw [MRe.kP];exact List.mem_map_of_mem hk)
theorem Tree.dE.ae {t:Tree} (h:t.dE):t.q7:=by
 induction t using Tree.nq with
 | h op set kids mn mx mode n neg ih=>
  have hn:=h.node;exact .mk ⟨hn.mL,hn.hone,fun h4=> (hn.Cz h4).1,fun h1=> (hn.tx h1).1,hn.HU⟩ fun k hk=> ih k hk (h.dy hk)
theorem CR (m:MRe):∀ (w:World),m.aK w→m.ab.q7→
  Calls Tryz.prog 52 #[m.val] w fun e w'=> e=.returned (F (fA m.ab))∧I [] w w':=by
 induction m using MRe.nq with
 | h op sa sc set ka kc kids mn mx mode n neg ih=>
  intro w aj aJ;obtain ⟨R,aC⟩:∃ R,R=fA (MRe.ab (.node op sa sc set ka kc kids mn mx mode n neg)):=⟨_,rfl⟩;rw [←aC];replace aC:R=if op=0∨op=6∨op=7∨op=8∨op=11 then true else if op=2 then qP (MRe.al kids) else if op=4∧mn=0 then true else if op=4∨op=3∨op=10∨op=5∨op=9 then xg (MRe.al kids) else false:=by rw [aC];simp only [MRe.ab,fA]
  have eC:=U4 aJ;have ff:=C (fun k (hk:k∈kids) W (h:I [] w W)=> ih k hk W ((aj.dy hk).ah h) (IE aJ hk));have hcap:=aj.ch.cap;have fc:=aj.ch.le;unfold maxLen at hcap;have b6:=C aj.kids;simp only [MRe.val];obtain ⟨U,aA,ar,c1,c2,an,av,ay,ax,az,dw,aB,aZ⟩:=tD w op sa sc set ka kc kids mn mx mode n neg;clear ih aj aJ
  by_cases h1:op=1
  ·subst h1;have aD:=C (show R=false by rw [aC];simp);clear aC eC;go_enter Tryz.func52,Tryz.ntmps52
   go_upto_region 1 with fail
   rw [←dw.o,←aB.o];go_wp2;go_ret;exact ⟨by rw [aD.o];rfl,aZ.o⟩
  ·by_cases h2:op=2
   ·subst h2;have dW:=C (show R=(MRe.al kids).all fA by rw [aC,←alY];simp);clear aC eC h1;go_enter Tryz.func52,Tryz.ntmps52
    go_upto_region 1 with fail
    rw [←dw.o,←aB.o];go_wp2
    go_loopw [3] (fun i wr=> ∃ k:Nat,k≤kids.length∧i=H J k∧(∀ x∈(MRe.al kids).take k,fA x=true)∧I [] aA wr) (fun i _=> kids.length - (intOf i).toNat)
    case atStart=> exact ⟨0,Nat.zero_le _,rfl,by simp,I.refl _ _⟩
    case round=>
     obtain ⟨k,gC,rfl,fB,ck⟩:=hrel;have eg:=C fB;have cX:=C ck;have dp:=ck.c c2;clear fB ck ar c1 c2 an av ay ax az
     by_cases aQ:k < kids.length
     ·obtain ⟨b,off,rfl,ad,hx⟩:=(b6.o.ah (aZ.o.trans cX.o)).ch.dy (by omega);have eD:=hx k aQ;have bI:=C (ff.o kids[k] (List.getElem_mem aQ) wr (aZ.o.trans cX.o));have i5:k < (MRe.al kids).length:=by rw [MRe.ee];exact aQ
      have hn:=fun h=> U1 (p:=fA) i5 eg.o h;have hf:=fun h=> Rs (p:=fA) i5 h;rw [kQ kids k aQ] at hn hf;have dP:=C hn;have gj:=C hf
      generalize kids[k]=m at *
      obtain ⟨ae,hq⟩:∃ ae,ae=fA m.ab:=⟨_,rfl⟩;rw [←hq] at bI dP gj;obtain ⟨op1,aM,aN,set1,aS,kc1,aq,mn1,aI,mode1,n1,aL⟩:=m;have g:=eD.node;obtain ⟨bg,aV,a6,bl,bq,bE,bF,bH⟩:=id g;simp only [MRe.val] at bI;clear g eD hx hq hn hf;go_wp2_with fail
      refine Calls.mono bI.o ?_;rintro e w3 ⟨rfl,aP⟩;have aR:=C (cX.o.trans aP);clear aP
      cases ae with
      | true=>
       have k8:=C (dP.o rfl);go_wp2;go_roundw
       case rel=> exact ⟨k + 1,by omega,by go_num,k8.o,aR.o⟩
       case measure=> simp [intOf];omega
      | false=>
       have sA:=C (gj.o rfl);go_wp2;go_ret;exact ⟨by rw [dW.o,sA.o];rfl,aZ.o.trans aR.o⟩
     ·obtain rfl:k=kids.length:=by omega
      have h0:=Rt (p:=fA) (l:=MRe.al kids) (by rw [MRe.ee];exact eg.o);have ny:=C h0;clear h0;go_wp2;go_ret;exact ⟨by rw [dW.o,ny.o];rfl,aZ.o.trans cX.o⟩
   ·by_cases eY:op=3∨op=10
    ·have dW:=C (show R=(MRe.al kids).any fA by rw [aC,←alZ];rcases eY with rfl | rfl <;> simp);clear aC eC h1 h2
     rcases eY with rfl | rfl
     all_goals
      go_enter Tryz.func52,Tryz.ntmps52
      go_upto_region 1 with fail
      rw [←dw.o,←aB.o];go_wp2
      go_loopw [4] (fun i wr=> ∃ k:Nat,k≤kids.length∧i=H J k∧(∀ x∈(MRe.al kids).take k,fA x=false)∧I [] aA wr) (fun i _=> kids.length - (intOf i).toNat)
      case atStart=> exact ⟨0,Nat.zero_le _,rfl,by simp,I.refl _ _⟩
      case round=>
       obtain ⟨k,gC,rfl,fB,ck⟩:=hrel;have eg:=C fB;have cX:=C ck;have dp:=ck.c c2;clear fB ck ar c1 c2 an av ay ax az
       by_cases aQ:k < kids.length
       ·obtain ⟨b,off,rfl,ad,hx⟩:=(b6.o.ah (aZ.o.trans cX.o)).ch.dy (by omega);have eD:=hx k aQ;have bI:=C (ff.o kids[k] (List.getElem_mem aQ) wr (aZ.o.trans cX.o));have i5:k < (MRe.al kids).length:=by rw [MRe.ee];exact aQ
        have hn:=fun h=> Pu (p:=fA) i5 eg.o h;have hf:=fun h=> Xf (p:=fA) i5 h;rw [kQ kids k aQ] at hn hf;have dP:=C hn;have gj:=C hf
        generalize kids[k]=m at *
        obtain ⟨ae,hq⟩:∃ ae,ae=fA m.ab:=⟨_,rfl⟩;rw [←hq] at bI dP gj;obtain ⟨op1,aM,aN,set1,aS,kc1,aq,mn1,aI,mode1,n1,aL⟩:=m;have g:=eD.node;obtain ⟨bg,aV,a6,bl,bq,bE,bF,bH⟩:=id g;simp only [MRe.val] at bI;clear g eD hx hq hn hf;go_wp2_with fail
        refine Calls.mono bI.o ?_;rintro e w3 ⟨rfl,aP⟩;have aR:=C (cX.o.trans aP);clear aP
        cases ae with
        | false=>
         have k8:=C (dP.o rfl);go_wp2;go_roundw
         case rel=> exact ⟨k + 1,by omega,by go_num,k8.o,aR.o⟩
         case measure=> simp [intOf];omega
        | true=>
         have sA:=C (gj.o rfl);go_wp2;go_ret;exact ⟨by rw [dW.o,sA.o];rfl,aZ.o.trans aR.o⟩
       ·obtain rfl:k=kids.length:=by omega
        have h0:=Xe (p:=fA) (l:=MRe.al kids) (by rw [MRe.ee];exact eg.o);have ny:=C h0;clear h0;go_wp2;go_ret;exact ⟨by rw [dW.o,ny.o];rfl,aZ.o.trans cX.o⟩
    ·by_cases gA:op=4∨op=5∨op=9
     ·have lE:kids.length=1:=eC.hone (by rcases gA with h | h | h <;> simp [h]);have l7:0 < kids.length:=by omega
      have hln:(0:Int) < (kids.length:Int):=by omega
      obtain ⟨b1,cR,dq,rfl,iM,hD,jf,hP⟩:=b6.o.head l7;obtain ⟨r,aO⟩:=oJ hD;have uY:r=[]:=by
       have h:=congrArg List.length aO;rw [MRe.ee,lE] at h;simp at h;exact h
      have hg:xg (MRe.al kids)=fA dq.ab:=by rw [aO,uY];simp [xg]
      rw [hg] at aC;have bI:=ff.o dq iM;obtain ⟨ae,hq⟩:∃ ae,ae=fA dq.ab:=⟨_,rfl⟩;simp only [←hq] at bI aC;obtain ⟨op1,aM,aN,set1,aS,kc1,aq,mn1,aI,mode1,n1,aL⟩:=dq;have g:=jf.node;obtain ⟨bg,aV,a6,bl,bq,bE,bF,bH⟩:=id g;obtain ⟨bK,d1,d2,bL,bO,bT,bU,bV⟩:=aZ.o.au bg aV a6 bl bq bE bF bH;simp only [MRe.val] at bI;have bI:=C bI;have vB:=C eC;clear g bg aV a6 bl bq bE bF bH iM hD jf hP aO uY hg hq lE eC h1 h2 eY
      rcases gA with rfl | rfl | rfl
      ·by_cases bW:mn=0
       ·subst bW;have aD:=C (show R=true by rw [aC];simp);clear aC;go_enter Tryz.func52,Tryz.ntmps52
        go_upto_region 1 with fail
        rw [←dw.o,←aB.o];go_wp2;go_ret;exact ⟨by rw [aD.o];rfl,aZ.o⟩
       ·have aD:=C (show R=ae by rw [aC];simp [bW]);have hm:=vB.o.Cz rfl;have cQ:¬ mn≤0:=by omega
        clear aC hm;go_enter Tryz.func52,Tryz.ntmps52
        go_upto_region 1 with fail
        rw [←dw.o,←aB.o];go_wp2_with fail
        refine Calls.mono (bI.o _ aZ.o) ?_;rintro e w3 ⟨rfl,aP⟩;have aR:=C (aZ.o.trans aP);clear aP;go_wp2;go_ret;exact ⟨by rw [aD.o];rfl,aR.o⟩
      all_goals
       have aD:=C (show R=ae by rw [aC];simp);clear aC;go_enter Tryz.func52,Tryz.ntmps52
       go_upto_region 1 with fail
       rw [←dw.o,←aB.o];go_wp2_with fail
       refine Calls.mono (bI.o _ aZ.o) ?_;rintro e w3 ⟨rfl,aP⟩;have aR:=C (aZ.o.trans aP);clear aP;go_wp2;go_ret;exact ⟨by rw [aD.o];rfl,aR.o⟩
     ·have ds:op=0∨op=6∨op=7∨op=8∨op=11:=by
       have:=eC.mL
       omega
      have aD:=C (show R=true by rw [aC,if_pos ds]);clear aC eC eY gA h1 h2
      rcases ds with rfl | rfl | rfl | rfl | rfl
      all_goals
       go_enter Tryz.func52,Tryz.ntmps52
       go_upto_region 1 with fail
       rw [←dw.o,←aB.o];go_wp2;go_ret;exact ⟨by rw [aD.o];rfl,aZ.o⟩
theorem wh {P:Program} {o:Oper} {b7:Act} {w:World} {ai:Act→World→Prop} {fv:Exit→Act→World→Prop}
  (s x:Operand) (t:TypeId) (mL:o.op=Op.call {callee:=Callee.builtin Builtin.append,args:=#[s,x],argTypes:=#[t,t]})
  (e:TypeId) (i:TypeInfo) (z:Value) (size bytes:Nat) (ht:P.underlying t=some (.slice e)) (hi:P.info? e=some i) (aW:i.zero=some z)
  (vb:i.size=size) (ps:i.bytes=bytes) (tz:z.cells.size=size) (cZ:0 < size)
  (a:Option Nat) (n c:Nat) (xs:List Value) (hs:b7.eval s=de a n c) (hown:cr w e size a n c xs)
  (wu:Option Addr) (m eG:Nat) (iq:List Value) (hx:b7.eval x=M wu m eG) (hl:iq.length=m * size) (hnews:0 < m→∃ aX,wu=some aX∧∀ j u,iq[j]? =some u→w.cell? (aX.add j)=some u) (h1:∀ u∈iq,u.oneCell'=true)
  (jC:n + m≤140737488355328) (tW:(n + m) * bytes≤140737488355328)
  (h:∀ dZ c' w',cr w' e size dZ (n + m) c' (xs ++ iq)→I a.toList w w'→(dZ=a∨∃ g,dZ=some g∧w.heap.size≤g)→ai (b7.put o.dst (de dZ (n + m) c')) w'):
  Oper.wp P o b7 w ai fv:=by
 obtain ⟨dZ,c',w',aO,h2,h3,h4⟩:=ac6 (P:=P) w t o.type e i z size bytes ht hi aW vb ps tz cZ a n c xs hown wu m eG iq hl hnews h1 jC tW;unfold Oper.wp execOp;simp only [mL,resolve,invoke,builtin,Sem.run_bind,Sem.run_pure,Result.andThen_ok,List.map_toArray,List.map_cons,List.map_nil,hs,hx,aO];exact h dZ c' w' h2 h3 h4
theorem cr.src {w:World} {e:Nat} {a:Option Nat} {n c:Nat} {xs:List Value} (h:cr w e 1 a n c xs):0 < n→∃ aX,(a.map fun g=> (⟨g,0,none⟩:Addr))=some aX∧∀ j u,xs[j]? =some u→w.cell? (aX.add j)=some u:=fun h0=> by
 cases a with
 | none=> obtain ⟨_,h2,_⟩:=h;omega
 | some g=>
  refine ⟨⟨g,0,none⟩,rfl,fun j u cy=> ?_⟩;obtain ⟨c8,cy⟩:=List.getElem?_eq_some_iff.1 cy;rw [Hm,Nat.zero_add,h.cell j c8,cy]
theorem CF (xs:List Int):∀ u∈xs.map (H J),u.oneCell'=true:=by
 intro u cy;obtain ⟨x,_,rfl⟩:=List.mem_map.1 cy
 rfl
theorem hr.src {w:World} {bP:Option Addr} {xs:List Int} (h:hr w bP xs):0 < xs.length→∃ aX,bP=some aX∧∀ j u,(xs.map (H J))[j]? =some u→w.cell? (aX.add j)=some u:=fun h0=> by
 obtain ⟨b,off,rfl,hc⟩:=h h0;refine ⟨⟨b,off,none⟩,rfl,fun j u cy=> ?_⟩;rw [List.getElem?_map] at cy;obtain ⟨x,hx,rfl⟩:=Option.map_eq_some_iff.1 cy;obtain ⟨c8,hx⟩:=List.getElem?_eq_some_iff.1 hx;rw [Hm,hc j c8,List.getD_eq_getElem?_getD,List.getElem?_eq_getElem c8,Option.getD_some,hx]
structure kD where
 bP:Option Addr
 pc:Nat
 path:List Int
def kD.v (r:kD):Value:=M r.bP r.path.length r.pc
structure pW (w:World) (a:Option Nat) (c:Nat) (rows:List kD):Prop where
 iJ:cr w 22 1 a rows.length c (rows.map kD.v)
 kz:∀ r∈rows,hr w r.bP r.path∧r.path.length≤r.pc∧∀ aX,r.bP=some aX→aX.block < w.heap.size∧some aX.block≠a
theorem pW.ah {w w':World} {a:Option Nat} {c:Nat} {rows:List kD} (h:pW w a c rows) (k:I [] w w'):pW w' a c rows:=
 ⟨h.iJ.ah k (by simp),fun r aO=> ⟨(h.kz r aO).1.bG k (fun _ _=> by simp),(h.kz r aO).2.1,fun aX dC=> ⟨Nat.lt_of_lt_of_le ((h.kz r aO).2.2 aX dC).1 k.size,((h.kz r aO).2.2 aX dC).2⟩⟩⟩
theorem pW.ak8 {w w':World} {a:Option Nat} {c g:Nat} {rows:List kD} (h:pW w a c rows) (k:I [g] w w') (hg:a≠some g) (hn:∀ r∈rows,∀ aX,r.bP=some aX→aX.block≠g):pW w' a c rows:=
 ⟨h.iJ.ah k (fun x hx hm=> by simp at hm;subst hm;exact hg hx),fun r aO=> ⟨(h.kz r aO).1.bG k (fun aX dC hm=> by simp at hm;exact hn r aO aX dC hm),(h.kz r aO).2.1,fun aX dC=> ⟨Nat.lt_of_lt_of_le ((h.kz r aO).2.2 aX dC).1 k.size,((h.kz r aO).2.2 aX dC).2⟩⟩⟩
theorem pW.cell {w:World} {g:Nat} {c:Nat} {rows:List kD} (h:pW w (some g) c rows) (i:Nat) (hi:i < rows.length):w.cell? ⟨g,i,none⟩=some (M rows[i].bP rows[i].path.length rows[i].pc):=by
 rw [h.iJ.cell i (by simpa using hi),List.getElem_map];rfl
theorem pW.push {w w':World} {a:Option Nat} {g c c':Nat} {rows:List kD} {r:kD} (h:pW w a c rows) (k:I a.toList w w') (hg:a=some g∨w.heap.size≤g) (hs:cr w' 22 1 (some g) (rows.length + 1) c' (rows.map kD.v ++ [r.v]))
  (aO:hr w' r.bP r.path) (hl:r.path.length≤r.pc) (hn:∀ aX,r.bP=some aX→aX.block < w.heap.size∧some aX.block≠a):pW w' (some g) c' (rows ++ [r]):=by
 have hne:∀ b,b < w.heap.size→some b≠a→some b≠some g:=fun b h1 h2 h3=> by
  cases h3
  rcases hg with h | h
  ·exact h2 h.symm
  ·omega
 refine ⟨by simpa using hs,fun x hx=> ?_⟩
 rcases List.mem_append.1 hx with hx | hx
 ·obtain ⟨h1,h2,h3⟩:=h.kz x hx;refine ⟨h1.bG k fun aX dC hm=> ?_,h2,fun aX dC=> ⟨Nat.lt_of_lt_of_le (h3 aX dC).1 k.size,hne _ (h3 aX dC).1 (h3 aX dC).2⟩⟩;simp at hm;exact (h3 aX dC).2 hm.symm
 ·simp at hx;subst hx;exact ⟨aO,hl,fun aX dC=> ⟨Nat.lt_of_lt_of_le (hn aX dC).1 k.size,hne _ (hn aX dC).1 (hn aX dC).2⟩⟩
def Dk (w:World) (t:Tree) (e:Ending) (w':World):Prop:=
 ∃ g c rows,e=.returned (M (some ⟨g,0,none⟩) (ia t).length c)∧rows.map kD.path=ia t∧pW w' (some g) c rows∧I [] w w'∧w.heap.size≤g∧∀ r∈rows,∀ aX,r.bP=some aX→w.heap.size≤aX.block
theorem abh:(Tryz.prog.info? 22).map (fun i=> (i.zero,i.size,i.bytes))=some (some (M none 0 0),1,24):=by kernel_rfl
end Go.Proofs.YtjnlkjlbejelgaaGreat
