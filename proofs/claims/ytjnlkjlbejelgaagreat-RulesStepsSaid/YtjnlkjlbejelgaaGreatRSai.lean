/- Part of the proof. No condition: every lemma says its own. -/
import Derived.Test.YtjnlkjlbejelgaaGreatRSPba
import Derived.Test.YtjnlkjlbejelgaaGreatRSPbb
import Derived.Test.YtjnlkjlbejelgaaGreatRSPbd
import Derived.Test.YtjnlkjlbejelgaaGreatRSag
import Derived.Test.YtjnlkjlbejelgaaGreatRSah
namespace Go.Proofs.YtjnlkjlbejelgaaGreat
open Go.RowKit
open Go.Value renaming int→H,slice→M,bool→F
open Go.IntKind renaming i64→J
set_option maxRecDepth 100000
set_option maxHeartbeats 16000000
theorem amQ (m:MRe) (w:World) (aj:m.aK w) (aJ:m.ab.dE):
  Calls Tryz.prog 12 #[H J 16,m.val] w (dc w m.aw (CN m.ab)):=by
 obtain ⟨R,aC⟩:∃ R,R=CN m.ab:=⟨_,rfl⟩;rw [←aC];obtain ⟨op,sa,sc,set,ka,kc,kids,mn,mx,mode,n,neg⟩:=m;have eC:=kB aJ;obtain ⟨U,cd⟩:∃ U,U=w.heap.size:=⟨_,rfl⟩;obtain ⟨aE,cz,iy,aW,j8,cZ,cq⟩:=Bb w (.node op sa sc set ka kc kids mn mx mode n neg) 26;simp only [MRe.row] at cz;rw [←cd] at iy aW j8 cZ;have aB:=C cd;have c7:=C cz;have bI:=C iy;have ba:=C aW;have lA:=C j8;have aH:=C cq;clear cd cz iy aW j8 cq;have hC:=C cZ;have eU:=C aj.fi;have hj:=C (I.refl [] aE);replace aC:R=if op=9∧((MRe.al kids).getD 0 .nil).op=4∧((MRe.al kids).getD 0 .nil).mode=0 then some (tY ((MRe.al kids).getD 0 .nil)) else none:=aC;simp only [MRe.val];clear cZ
 by_cases a1:op=9
 ·have lE:kids.length=1:=eC.hone (by simp [a1]);have l7:0 < kids.length:=by omega
  have hln:(0:Int) < (kids.length:Int):=by omega
  obtain ⟨b1,cR,dq,rfl,iM,hD,jf,hP⟩:=aj.kids.head l7;obtain ⟨r,aO⟩:=oJ hD;have hg:(MRe.al kids).getD 0 .nil=dq.ab:=by rw [aO];rfl
  rw [hg] at aC;have iP:=C (show du (U + 2) (MRe.node op sa sc set (some ⟨b1,cR,none⟩) kc kids mn mx mode n neg).aw dq.aw from du.rR (mF iM));subst a1;obtain ⟨op1,aM,aN,set1,aS,kc1,aq,mn1,aI,mode1,n1,aL⟩:=dq;have w6:(MRe.ab (.node op1 aM aN set1 aS kc1 aq mn1 aI mode1 n1 aL)).op=op1:=rfl;have sZ:(MRe.ab (.node op1 aM aN set1 aS kc1 aq mn1 aI mode1 n1 aL)).mode=mode1:=rfl;rw [w6,sZ] at aC;have jq:=C hP;have g:=jf.node;obtain ⟨bg,aV,a6,bl,bq,bE,bF,bH⟩:=id g;obtain ⟨bK,d1,d2,bL,bO,bT,bU,bV⟩:=aH.o.au bg aV a6 bl bq bE bF bH;clear g bg aV a6 bl bq bE bF bH iM hD jf hP aO lE aj aJ eC hg w6 sZ
  by_cases a4:op1=4
  ·by_cases a0:mode1=0
   ·have aD:=C (show R=some (tY (MRe.ab (.node op1 aM aN set1 aS kc1 aq mn1 aI mode1 n1 aL))) from aC.trans (if_pos ⟨rfl,a4,a0⟩));clear aC;subst a4 a0;obtain ⟨ar,c1,c2,an,av,ay,ax,az⟩:=bI.o.ez;go_enter Tryz.func12,Tryz.ntmps12
    go_upto_region 2 with fail
    rw [←c7.o,←aB.o];go_upto_region 50 with fail
    obtain ⟨dJ,n4⟩:∃ dJ,dJ=aE.heap.size:=⟨_,rfl⟩;obtain ⟨aA,c5⟩:∃ aA,aA=aE.alloc (bf 4 aM set1 aN aS aq kc1 mn1 aI 0 n1 aL):=⟨_,rfl⟩;have eZ:I [] aE aA:=by rw [c5];exact I.a1 _ _
    have sQ:aA.heap[dJ]? =some (bf 4 aM set1 aN aS aq kc1 mn1 aI 0 n1 aL):=by rw [c5,n4];exact heap_alloc_new aE _
    rw [←c5,←n4];have aZ:=C eZ;have xo:=C sQ;have Mw:=C n4;obtain ⟨fQ,p1,p2,jh,ji,lq,lr,lu⟩:=eR sQ;have wj:=h6 sQ;clear n4 c5 eZ sQ ar c1 c2 an av ay ax az bK d1 d2 bL bO bT bU bV;go_upto_region 51 with fail
    obtain ⟨ak,cY⟩:∃ ak,ak=aA.setCell ⟨dJ,5,none⟩ (H J 2):=⟨_,rfl⟩;have dh:I [dJ] aA ak:=by rw [cY];exact (I.refl [dJ] aA).setCell (p:=⟨dJ,5,none⟩) (.inl (by simp)) _
    have zS:ak.heap[dJ]? =some (bf 4 aM set1 aN aS aq kc1 mn1 aI 2 n1 aL):=by rw [cY];exact heap_setCell_same _ dJ 5 _ _ _ xo.o
    rw [←cY];obtain ⟨a0,a1,a2,a3,a4,a5,dM,dO⟩:=eR zS;have dG:=C (show I [] aE ak from aZ.o.cn dh (by intro x hx;simp at hx;subst hx;exact .inr (by rw [Mw.o];exact Nat.le_refl _)));obtain ⟨z0,z1,z2,z3,z4,z5,b9,cc,cj⟩:=ew (dG.o.h ba.o);have ds:MRe.aK ak (.node 4 aM aN set1 aS kc1 aq mn1 aI 2 n1 aL):=.hR (jq.o.nV.ah (aH.o.trans dG.o)) (jq.o.kids.ah (aH.o.trans dG.o));obtain ⟨aY,cm,fy,gB⟩:=nd aB.o aH.o dG.o ba.o ds iP.o eU.o;have eo:=C aY;have ey:=C cm;have fS:=C fy;have fT:=C gB;clear aY cm fy gB ds cY dh zS fQ p1 p2 jh ji lq lr lu wj;go_wp2;refine rt eo.o ?_;exact dc.iI (.node 4 aM aN set1 aS kc1 aq mn1 aI 2 n1 aL) aD.o rfl ey.o fS.o fT.o
   ·have aD:=C (show R=none from aC.trans (if_neg (fun h=> a0 h.2.2)));clear aC;have ad:(mode1 !=0)=true:=by simpa using a0
    have m5:(mode1==0)=false:=by simpa using a0
    subst a4;obtain ⟨ar,c1,c2,an,av,ay,ax,az⟩:=bI.o.ez;go_enter Tryz.func12,Tryz.ntmps12
    go_upto_region 2 with fail
    rw [←c7.o,←aB.o];obtain ⟨c6,y1,dp,eb,ef,ej,ek,el,oh⟩:=ew (hj.o.h lA.o);obtain ⟨z0,z1,z2,z3,z4,z5,b9,cc,cj,cw,bQ⟩:=gR aB.o aH.o hj.o ba.o;go_wp2;refine rt cw.o ?_;exact dc.dL aD.o rfl bQ.o
  ·have aD:=C (show R=none from aC.trans (if_neg (fun h=> a4 h.2.1)));clear aC;have ad:(op1 !=4)=true:=by simpa using a4
   have m5:(op1==4)=false:=by simpa using a4
   obtain ⟨ar,c1,c2,an,av,ay,ax,az⟩:=bI.o.ez;go_enter Tryz.func12,Tryz.ntmps12
   go_upto_region 2 with fail
   rw [←c7.o,←aB.o];obtain ⟨c6,y1,dp,eb,ef,ej,ek,el,oh⟩:=ew (hj.o.h lA.o);obtain ⟨z0,z1,z2,z3,z4,z5,b9,cc,cj,cw,bQ⟩:=gR aB.o aH.o hj.o ba.o;go_wp2;refine rt cw.o ?_;exact dc.dL aD.o rfl bQ.o
 ·have aD:=C (show R=none from aC.trans (if_neg (fun h=> a1 h.1)));clear aC;have ad:(op !=9)=true:=by simpa using a1
  have m5:(op==9)=false:=by simpa using a1
  clear aj aJ eC;obtain ⟨ar,c1,c2,an,av,ay,ax,az⟩:=bI.o.ez;go_enter Tryz.func12,Tryz.ntmps12
  go_upto_region 2 with fail
  rw [←c7.o,←aB.o];obtain ⟨c6,y1,dp,eb,ef,ej,ek,el,oh⟩:=ew (hj.o.h lA.o);obtain ⟨z0,z1,z2,z3,z4,z5,b9,cc,cj,cw,bQ⟩:=gR aB.o aH.o hj.o ba.o;go_wp2;refine rt cw.o ?_;exact dc.dL aD.o rfl bQ.o
theorem alM (t:Tree):oe 3 w5 KW t=uU t:=by
 unfold oe uU qa
 split
 ·rfl
 ·rfl
theorem alO (t:Tree):oe 3 zi Mj t=Bz t:=by
 unfold oe Bz qa
 split
 ·rfl
 ·rfl
theorem alP (t:Tree):oe 3 tc (fun a b=> .node 1 (nv a.set b.set) [] 0 0 0 0 false) t=AM t:=by
 unfold oe AM qa
 split
 ·rfl
 ·rfl
theorem alN (t:Tree):oe 2 y9 (fun a _=> .node 4 [] [a] 1 (-1) 0 0 false) t=By t:=by
 unfold oe By qa
 split
 ·rfl
 ·rfl
theorem aok {op:Int} {l:List Tree} {i:Nat} (h:i + 1 < l.length):hF op l i (i + 2) [l.getD (i + 1) .nil]=hF op l i (i + 1) []:=by
 unfold hF
 congr 2
 rw [List.getD_eq_getElem?_getD,List.getElem?_eq_getElem h,Option.getD_some];simp only [List.singleton_append,List.nil_append];rw [List.drop_eq_getElem_cons h]
theorem ach (p:Tree→Tree→Bool) (t:Tree):oe 2 p (fun _ b=> b) t=uS p t:=by
 unfold oe uS qa
 split
 ·cases h:mz p t.kids with
  | none=> rfl
  | some i=>
   have hl:=Ur h;simp only [Option.map_some];rw [aok hl]
 ·rfl
theorem ak9 {t:Tree} (h:t.dE):Gd 0 2 t=CY t:=by
 unfold Gd CY
 split
 ·rename_i ds
  cases hf:t.kids.findIdx? (fun k=> k.op==0) with
  | none=> rfl
  | some i=>
   obtain ⟨hi,hp,_⟩:=List.findIdx?_eq_some_iff_getElem.1 hf;have hg:t.kids.getD i .nil=t.kids[i]:=by rw [List.getD_eq_getElem?_getD,List.getElem?_eq_getElem hi,Option.getD_some]
   simp only [Option.map_some];rw [hg,ds];have hk:(t.kids[i]).dE:=by
    cases t with
    | node op set kids mn mx mode n neg=> exact h.dy (List.getElem_mem hi)
   have h0:(t.kids[i]).kids=[]:=by
    have mL:(t.kids[i]).op=0:=by simpa using hp
    generalize t.kids[i]=k at *
    cases k with
    | node op set kids mn mx mode n neg=>
     have:=hk.node.akb (.inl mL)
     exact List.eq_nil_of_length_eq_zero this
   rw [h0]
 ·rfl
theorem am0 (r:Nat) (aO:r < 17) (m:MRe) (w:World) (aj:m.aK w) (aJ:m.ab.dE) (ad:m.ab.bm≤100000):
  Calls Tryz.prog 12 #[H J r,m.val] w (dc w m.aw (rV r m.ab)):=by
 obtain rfl | rfl | rfl | rfl | rfl | rfl | rfl | rfl | rfl | rfl | rfl | rfl | rfl | rfl | rfl | rfl | rfl:r=0∨r=1∨r=2∨r=3∨r=4∨r=5∨r=6∨r=7∨r=8∨r=9∨r=10∨r=11∨r=12∨r=13∨r=14∨r=15∨r=16:=by omega
 ·exact amJ m w aj aJ ad
 ·exact amR m w aj aJ ad
 ·have h:=amS m w aj aJ ad;rw [ak9 aJ] at h;exact h
 ·exact amT m w aj aJ ad
 ·have h:=amU m w aj aJ ad;rw [alM] at h;exact h
 ·have h:=amV m w aj aJ ad;rw [alO] at h;exact h
 ·have h:=amW m w aj aJ ad;rw [alP] at h;exact h
 ·exact amX m w aj aJ
 ·exact amY m w aj aJ
 ·have h:=amZ m w aj aJ ad;rw [ach] at h;exact h
 ·have h:=amK m w aj aJ ad;rw [ach] at h;exact h
 ·have h:=amL m w aj aJ ad;rw [alN] at h;exact h
 ·exact amM m w aj aJ ad
 ·exact amN m w aj aJ
 ·exact amO m w aj aJ
 ·exact amP m w aj aJ
 ·exact amQ m w aj aJ
def aeh (w:World) (e:Ending) (w':World):Prop:=
 ∃ (m:MRe) (cp:Int),e=.returned (fV m cp false)∧m.aK w'∧I [] w w'∧m.ab.bm≤12000∧gZ m.ab cp false=0
theorem Xy (cS:Option Addr) (dH:Nat) (bR:List Int) (at0 lQ:Int) (w:World) (hin:hr w cS bR) (hl:bR.length≤9223372036854775807) (ad:∀ x∈bR,np x) (hat:np at0) (tt:np lQ):
  Calls Tryz.prog 8 #[M cS bR.length dH,H J at0,H J lQ] w (aeh w):=
 (RL cS dH bR at0 lQ w hin hl ad hat tt).mono fun _ _ ⟨m,cp,h1,h2,h3,h4,h5,_⟩=> ⟨m,cp,h1,h2,h3,h4,h5⟩
theorem R4 (rows:List ei):∀ u∈mH rows,u.oneCell'=true:=by
 intro u cy;simp only [mH,List.mem_flatMap] at cy;obtain ⟨x,_,hx⟩:=cy;simp at hx
 rcases hx with rfl | rfl <;> rfl
theorem OC:(Tryz.prog.info? 52).map (fun i=> (i.zero,i.size,i.bytes))=some (some (.agg #[H J 0,M none 0 0]),2,32):=by kernel_rfl
theorem UY (r:Int) (bP:Option Addr) (n pc:Nat) (w:World):
  Calls Tryz.prog 28 #[.agg #[H J r,M bP n pc]] w fun e w'=> e=.returned (.agg #[H J r,M bP n pc])∧I [] w w':=by
 go_enter Tryz.func28,Tryz.ntmps28
 go_wp2;refine bodyPost_ret (results_cell_row rfl _ _ (w.heap.size + 1) 61 #[H J r,M bP n pc] (0,0) _ rfl (heap_alloc2_new w _ _) Tryz.underlying61 rfl GD) rfl ?_;exact ⟨rfl,((I.refl [] w).alloc _).alloc _⟩
theorem wL.right {a v:Nat} (h:wL a v) (w:Nat):wL a (w ||| v):=fun i hi=> by
 have:=h i hi
 simp only [Nat.testBit_or] at *
 grind
def r6 (w:World) (src:List Nat) (cp:Int) (ru:Bool) (v:Value) (o:Option Tree) (e:Ending) (w':World):Prop:=
 ∃ (m:MRe) (cp':Int) (ru':Bool),e=.returned (.tuple #[fV m cp' ru',v])∧m.ab=o.getD .nil∧cp'=(if o.isSome then cp else 0)∧ru'=(o.isSome && ru)∧m.aK w'∧I [] w w'∧du w.heap.size src m.aw
theorem r6.dL {w:World} {src:List Nat} {cp:Int} {ru:Bool} {v:Value} {o:Option Tree} {e:Ending} {w':World} (h:o=none) (he:e=.returned (.tuple #[fV .nil 0 false,v])) (hk:I [] w w'):r6 w src cp ru v o e w':=by
 subst h;exact ⟨MRe.nil,0,false,he,rfl,rfl,rfl,MRe.aK.nil _,hk,XX _ _⟩
theorem r6.iI {w:World} {src:List Nat} {cp:Int} {ru:Bool} {v:Value} {o:Option Tree} {e:Ending} {w':World} (r:MRe) (h:o=some r.ab) (he:e=.returned (.tuple #[fV r cp ru,v])) (aO:r.aK w') (hk:I [] w w') (hf:du w.heap.size src r.aw):r6 w src cp ru v o e w':=by
 subst h;exact ⟨r,cp,ru,he,rfl,rfl,by simp,aO,hk,hf⟩
theorem amD {y:Tree}:∀ (p:List Int) {t x:Tree},jW t p=some x→∃ z,lI t p y=some z:=by
 intro p
 induction p with
 | nil=> intro t x _;exact ⟨y,rfl⟩
 | cons i r ih=>
  intro t x h;rw [jW] at h
  split at h
  ·rename_i hi
   obtain ⟨z,aW⟩:=ih h;exact ⟨_,by rw [lI,if_pos hi,aW];rfl⟩
  ·cases h
theorem Pa (m:MRe) (cp:Int) (ru:Bool) (r:Int) (path:List Int) (bP:Option Addr) (pc:Nat) (w:World) (aj:m.aK w) (hin:hr w bP path) (hc:path.length≤pc) (hl:path.length≤1000000) (ad:m.ab.bm≤1000000):
  Calls Tryz.prog 29 #[fV m cp ru,CV r bP path.length pc] w (r6 w m.aw cp ru (H J (j9 m.ab cp ru r path).1) (j9 m.ab cp ru r path).2):=by
 obtain ⟨U,cd⟩:∃ U,U=w.heap.size:=⟨_,rfl⟩;obtain ⟨aE,cz⟩:∃ aE,aE=((w.alloc (.cells (m.row ++ [H J cp,Value.bool ru]).toArray 28)).alloc (.cells #[H J r,M bP path.length pc] 52)).alloc hN:=⟨_,rfl⟩;have cq:I [] w aE:=by rw [cz];exact I.a3 _ _ _ _
 have gg:aE.heap[U]? =some (.cells (m.row ++ [H J cp,Value.bool ru]).toArray 28 (0,0)):=by rw [cz,cd];exact (I.a2 _ _ _).heap (heap_alloc_new w _) (by simp)
 have iR:aE.heap[U + 1]? =some (.cells #[H J r,M bP path.length pc] 52 (0,0)):=by rw [cz,cd];exact (I.a1 _ _).heap (heap_alloc2_new w _ _) (by simp)
 have aW:aE.heap[U + 1 + 1]? =some hN:=by
  rw [cz,show U + 1 + 1=((w.alloc (.cells (m.row ++ [H J cp,Value.bool ru]).toArray 28)).alloc (.cells #[H J r,M bP path.length pc] 52)).heap.size by rw [cd];simp];exact heap_alloc_new _ _
 have en:=C (Mb m cp ru aE (aj.ah cq) ad);have wE:=C (fun (W:World) (h:I [] aE W) (p:MRe) (h1:p.aK W)=> UO path m p bP pc W ((aj.ah cq).ah h) h1 ((hin.bG cq (fun _ _=> by simp)).bG h (fun _ _=> by simp)) hc hl ad);have gP:=C (fun (W:World) (h:I [] aE W)=> UK path m bP pc W ((aj.ah cq).ah h) ((hin.bG cq (fun _ _=> by simp)).bG h (fun _ _=> by simp)) hc hl);have BO:=C aj.fi;obtain ⟨uJ,wV⟩:∃ l,l=m.aw:=⟨_,rfl⟩;obtain ⟨T,hT⟩:∃ T,T=m.ab:=⟨_,rfl⟩;obtain ⟨R,aY⟩:∃ R,R=j9 m.ab cp ru r path:=⟨_,rfl⟩;rw [←aY];rw [←hT] at aY wE gP en;rw [←wV] at BO wE gP ⊢;unfold j9 at aY;obtain ⟨ve,hve⟩:∃ v,v=gZ T cp ru:=⟨_,rfl⟩;have zr:=C (show ve=0→T.dE∧T.bm≤16640 from fun h=> by have:=ya (hve ▸ h);exact ⟨this.1,this.2.1⟩);rw [←hve] at aY en;have aD:=C aY;have aB:=C cd;have aH:=C cq;have ba:=C aW;obtain ⟨op1,aM,aN,set1,aS,kc1,aq,mn1,aI,mode1,n1,aL⟩:=m;have mm:=C (show aE.heap[U]? =some (.cells #[H J op1,M aM set1.length aN,M aS aq.length kc1,H J mn1,H J aI,H J mode1,H J n1,F aL,H J cp,F ru] 28 (0,0)) from gg);have c7:=C (show aE=((w.alloc (.cells #[H J op1,M aM set1.length aN,M aS aq.length kc1,H J mn1,H J aI,H J mode1,H J n1,F aL,H J cp,F ru] 28)).alloc (.cells #[H J r,M bP path.length pc] 52)).alloc hN from cz);simp only [MRe.val,fV,MRe.row,List.cons_append,List.nil_append] at en wE gP;obtain ⟨ar,c1,c2,an,av,ay,ax,az,au,dg,fh⟩:=fR mm.o;have c0:aE.cell? ⟨U + 1,0,none⟩=some (H J r):=by simp [World.cell?,iR]
 have cT:aE.cell? ⟨U + 1,1,none⟩=some (M bP path.length pc):=by simp [World.cell?,iR]
 show Calls Tryz.prog 29 #[.agg #[H J op1,M aM set1.length aN,M aS aq.length kc1,H J mn1,H J aI,H J mode1,H J n1,F aL,H J cp,F ru],.agg #[H J r,M bP path.length pc]] w _
 clear cd cz cq gg iR aW aY aj hin fh hT hve ad hc wV;go_enter Tryz.func29,Tryz.ntmps29
 go_upto_region 1 with fail
 rw [←c7.o,←aB.o];go_wp2_with fail
 refine Calls.mono en.o ?_;rintro e w2 ⟨rfl,hk2⟩;have aU:=C hk2;have dx:=hk2.au ar c1 c2 an av ay ax az;clear ar c1 c2 an av ay ax az;obtain ⟨ar,c1,c2,an,av,ay,ax,az⟩:=dx;replace au:=hk2.c au;replace dg:=hk2.c dg;replace c0:=hk2.c c0;replace cT:=hk2.c cT;clear hk2 en
 by_cases da:ve=0
 rotate_left
 ·have Bt:(ve !=0)=true:=by simpa using da
  have ga:=C (show R=(ve,none) by rw [aD.o,if_neg da]);have ho:=C (pe (aU.o.h ba.o) (H J 0) (M none 0 0) (M none 0 0) (H J 0) (H J 0) (H J 0) (H J 0) (F false) (H J 0) (F false));have fZ:=C ((aH.o.trans aU.o).cn (pf w2 (U + 1 + 1) (H J 0) (M none 0 0) (M none 0 0) (H J 0) (H J 0) (H J 0) (H J 0) (F false) (H J 0) (F false)) (by intro x hx;simp at hx;subst hx;exact .inr (by have:=aB.o;omega)));obtain ⟨z0,z1,z2,z3,z4,z5,b9,cc,qf,z9,cj⟩:=fR (aU.o.h ba.o);go_wp2;refine bodyPost_ret (qb rfl _ _ (U + 1 + 1) 28 #[H J 0,M none 0 0,M none 0 0,H J 0,H J 0,H J 0,H J 0,F false,H J 0,F false] (0,0) _ rfl ho.o Tryz.underlying28 rfl kO) rfl ?_;exact r6.dL (by rw [ga.o]) (by rw [ga.o];rfl) fZ.o
 obtain ⟨na,hbk⟩:=zr.o da;subst da;have qs:=C na;have fY:=C hbk;have cw:=C (aD.o.trans (if_pos rfl));clear na hbk zr aD
 by_cases uY:r < 0
 ·skip
  have ga:=C (show R=(5,none) by rw [cw.o,if_neg (by omega)]);have ho:=C (pe (aU.o.h ba.o) (H J 0) (M none 0 0) (M none 0 0) (H J 0) (H J 0) (H J 0) (H J 0) (F false) (H J 0) (F false));have fZ:=C ((aH.o.trans aU.o).cn (pf w2 (U + 1 + 1) (H J 0) (M none 0 0) (M none 0 0) (H J 0) (H J 0) (H J 0) (H J 0) (F false) (H J 0) (F false)) (by intro x hx;simp at hx;subst hx;exact .inr (by have:=aB.o;omega)));obtain ⟨z0,z1,z2,z3,z4,z5,b9,cc,qf,z9,cj⟩:=fR (aU.o.h ba.o);go_wp2;refine bodyPost_ret (qb rfl _ _ (U + 1 + 1) 28 #[H J 0,M none 0 0,M none 0 0,H J 0,H J 0,H J 0,H J 0,F false,H J 0,F false] (0,0) _ rfl ho.o Tryz.underlying28 rfl kO) rfl ?_;exact r6.dL (by rw [ga.o]) (by rw [ga.o];rfl) fZ.o
 by_cases gL:17≤r
 ·skip
  have ga:=C (show R=(5,none) by rw [cw.o,if_neg (by omega)]);have ho:=C (pe (aU.o.h ba.o) (H J 0) (M none 0 0) (M none 0 0) (H J 0) (H J 0) (H J 0) (H J 0) (F false) (H J 0) (F false));have fZ:=C ((aH.o.trans aU.o).cn (pf w2 (U + 1 + 1) (H J 0) (M none 0 0) (M none 0 0) (H J 0) (H J 0) (H J 0) (H J 0) (F false) (H J 0) (F false)) (by intro x hx;simp at hx;subst hx;exact .inr (by have:=aB.o;omega)));obtain ⟨z0,z1,z2,z3,z4,z5,b9,cc,qf,z9,cj⟩:=fR (aU.o.h ba.o);go_wp2;refine bodyPost_ret (qb rfl _ _ (U + 1 + 1) 28 #[H J 0,M none 0 0,M none 0 0,H J 0,H J 0,H J 0,H J 0,F false,H J 0,F false] (0,0) _ rfl ho.o Tryz.underlying28 rfl kO) rfl ?_;exact r6.dL (by rw [ga.o]) (by rw [ga.o];rfl) fZ.o
 have k2:=C (cw.o.trans (if_pos (by omega)));obtain ⟨rl,rfl⟩:∃ n:Nat,r=(n:Int):=⟨r.toNat,by omega⟩;have p5:rl < 17:=by omega
 have Db:=C p5;clear cw;go_wp2_with fail
 refine Calls.mono (gP.o _ aU.o) ?_;rintro e w4 ⟨ae,rfl,a7,aT,bc,hqf⟩;obtain ⟨q0,bN⟩:∃ q0,q0=ae:=⟨_,rfl⟩;rw [←bN] at a7 aT hqf;have dt:=C bN;have dK:=C a7;have dA:=C aT;have et:=C (show du aE.heap.size uJ q0.aw from hqf.mono aU.o.size (fun b ad=> .inl ad));obtain ⟨bA,bB,bC,bD,bs,bt,bu,bo,bx,bw,bp,bz⟩:=ae;simp only [MRe.val];have cl:=C (aU.o.trans bc);have dx:=bc.au ar c1 c2 an av ay ax az;clear ar c1 c2 an av ay ax az;obtain ⟨ar,c1,c2,an,av,ay,ax,az⟩:=dx;replace au:=bc.c au;replace dg:=bc.c dg;replace c0:=bc.c c0;replace cT:=bc.c cT;clear bc hqf a7 aT bN;obtain ⟨B6,Cn⟩:∃ B6,B6=jW T path:=⟨_,rfl⟩;have ly:=C Cn;rw [←Cn] at dK ⊢;have A2:=C (show R=zh T cp ru rl path B6 by rw [Cn,k2.o,Int.toNat_natCast]);clear Cn k2 gP;go_upto_region 7 with fail
 obtain ⟨ak,cY⟩:∃ ak,ak=w4.alloc (bf bA bB bD bC bs bu bt bo bx bw bp bz):=⟨_,rfl⟩;obtain ⟨nw,Cl⟩:∃ nw,nw=w4.heap.size:=⟨_,rfl⟩;have dh:I [] w4 ak:=by rw [cY];exact I.a1 _ _
 have uV:ak.heap[nw]? =some (bf bA bB bD bC bs bu bt bo bx bw bp bz):=by rw [cY,Cl];exact heap_alloc_new w4 _
 have aeX:=C uV;rw [←cY,←Cl];have dG:=C (cl.o.trans dh);have wJ:=C (dA.o.ah dh);have dx:=dh.au ar c1 c2 an av ay ax az;clear ar c1 c2 an av ay ax az;obtain ⟨ar,c1,c2,an,av,ay,ax,az⟩:=dx;replace au:=dh.c au;replace dg:=dh.c dg;replace c0:=dh.c c0;replace cT:=dh.c cT;clear cY Cl dh uV dA cl
 cases B6 with
 | none=>
  simp only [Option.isSome_none,Bool.false_eq_true,if_false];have ga:=C (show R=(7,none) by rw [A2.o];rfl);have ho:=C (pe (dG.o.h ba.o) (H J 0) (M none 0 0) (M none 0 0) (H J 0) (H J 0) (H J 0) (H J 0) (F false) (H J 0) (F false));have fZ:=C ((aH.o.trans dG.o).cn (pf ak (U + 1 + 1) (H J 0) (M none 0 0) (M none 0 0) (H J 0) (H J 0) (H J 0) (H J 0) (F false) (H J 0) (F false)) (by intro x hx;simp at hx;subst hx;exact .inr (by have:=aB.o;omega)));obtain ⟨z0,z1,z2,z3,z4,z5,b9,cc,qf,z9,cj⟩:=fR (dG.o.h ba.o);go_wp2;refine bodyPost_ret (qb rfl _ _ (U + 1 + 1) 28 #[H J 0,M none 0 0,M none 0 0,H J 0,H J 0,H J 0,H J 0,F false,H J 0,F false] (0,0) _ rfl ho.o Tryz.underlying28 rfl kO) rfl ?_;exact r6.dL (by rw [ga.o]) (by rw [ga.o];rfl) fZ.o
 | some x=>
  simp only [Option.isSome_some,if_true];have sE:=C (show R=x9 T cp ru path (rV rl x) from A2.o);have hx:=Nl path qs.o ly.o.symm;have Cy:q0.ab=x:=dK.o;have mE:=fun (W:World) (h:I [] ak W)=> (show Calls Tryz.prog 12 #[H J rl,q0.val] W (Mq W q0.aw (rV rl x)) from by
   have h0:=am0 rl Db.o q0 W (wJ.o.ah h) (by rw [Cy];exact hx.1) (by rw [Cy];have:=fY.o;omega);rw [Cy] at h0;exact Calls.mono h0 fun _ _ h=> dc.any h)
  have vC:=C (fun (y:Tree)=> amD (y:=y) path ly.o.symm);obtain ⟨pV,oA⟩:∃ pV,pV=rV rl x:=⟨_,rfl⟩;rw [←oA] at mE sE;have yq:=C (show ∀ y,pV=some y→y.bm≤200000 from fun y h=> by rw [oA] at h;have:=UQ Db.o h;have:=fY.o;omega);have G4:=C dt.o;rw [show q0.val=.agg #[H J bA,M bB bD.length bC,M bs bu.length bt,H J bo,H J bx,H J bw,H J bp,F bz] by rw [G4.o];rfl] at mE;have mE:=C mE;clear oA hx Cy A2 ly uY gL p5;obtain ⟨bg,aV,a6,bl,bq,bE,bF,bH⟩:=eR aeX.o;go_wp2_with fail
  refine Calls.mono (mE.o _ (I.refl _ _)) ?_;rintro e bS ⟨q2,rfl,a7,aT,hk5,hqf⟩;obtain ⟨kK,vW⟩:∃ kK,kK=q2:=⟨_,rfl⟩;rw [←vW] at a7 aT hqf;have zA:=C vW;have Dl:=C a7;have A9:=C aT;have Q1:=C (show du aE.heap.size uJ kK.aw from fun b ad=> by
   rcases hqf b ad with h | h
   ·exact et.o b h
   ·right;have:=dG.o.size;omega)
  obtain ⟨cK,cL,cM,cN,cD,cE,cF,cG,cI,cH,cu,cJ⟩:=q2;simp only [MRe.val];have dr:=C (dG.o.trans hk5);have dx:=hk5.au ar c1 c2 an av ay ax az;clear ar c1 c2 an av ay ax az;obtain ⟨ar,c1,c2,an,av,ay,ax,az⟩:=dx;replace au:=hk5.c au;replace dg:=hk5.c dg;replace cT:=hk5.c cT;clear a7 aT hk5 hqf vW bg aV a6 bl bq bE bF bH c0 mE;go_upto_region 10 with fail
  obtain ⟨eu,nM⟩:∃ eu,eu=bS.alloc (bf cK cL cN cM cD cF cE cG cI cH cu cJ):=⟨_,rfl⟩;obtain ⟨qh,sj⟩:∃ qh,qh=bS.heap.size:=⟨_,rfl⟩;have i4:I [] bS eu:=by rw [nM];exact I.a1 _ _
  have nN:eu.heap[qh]? =some (bf cK cL cN cM cD cF cE cG cI cH cu cJ):=by rw [nM,sj];exact heap_alloc_new bS _
  have AT:=C nN;rw [←nM,←sj];have kT:=C (dr.o.trans i4);have Q4:=C (A9.o.ah i4);have dx:=i4.au ar c1 c2 an av ay ax az;clear ar c1 c2 an av ay ax az;obtain ⟨ar,c1,c2,an,av,ay,ax,az⟩:=dx;replace au:=i4.c au;replace dg:=i4.c dg;replace cT:=i4.c cT;clear nM sj i4 nN A9 dr
  cases pV with
  | none=>
   simp only [Option.isSome_none];have ga:=C (show R=(10,none) by rw [sE.o];rfl);have ho:=C (pe (kT.o.h ba.o) (H J 0) (M none 0 0) (M none 0 0) (H J 0) (H J 0) (H J 0) (H J 0) (F false) (H J 0) (F false));have fZ:=C ((aH.o.trans kT.o).cn (pf eu (U + 1 + 1) (H J 0) (M none 0 0) (M none 0 0) (H J 0) (H J 0) (H J 0) (H J 0) (F false) (H J 0) (F false)) (by intro x hx;simp at hx;subst hx;exact .inr (by have:=aB.o;omega)));obtain ⟨z0,z1,z2,z3,z4,z5,b9,cc,qf,z9,cj⟩:=fR (kT.o.h ba.o);go_wp2;refine bodyPost_ret (qb rfl _ _ (U + 1 + 1) 28 #[H J 0,M none 0 0,M none 0 0,H J 0,H J 0,H J 0,H J 0,F false,H J 0,F false] (0,0) _ rfl ho.o Tryz.underlying28 rfl kO) rfl ?_;exact r6.dL (by rw [ga.o]) (by rw [ga.o];rfl) fZ.o
  | some y=>
   simp only [Option.isSome_some];obtain ⟨ep,aJ,cP,eM,eF,eN,eO,eP⟩:=eR AT.o;have o0:kK.ab=y:=Dl.o;have nB:=wE.o eu kT.o kK Q4.o;rw [o0,zA.o] at nB;simp only at nB;obtain ⟨z,aW⟩:=vC.o y;rw [aW] at nB;have nB:=C nB;have A5:=C (show z.bm≤1000000 by have:=UF path aW;have:=yq.o y rfl;have:=fY.o;omega);have yu:=C (show R=if gZ z cp ru=0 then (0,some z) else (4,none) by
    rw [sE.o];simp only [x9,sr,aW]
    by_cases h:gZ z cp ru=0
    ·simp [h]
    ·simp [h])
   clear aW o0 vC sE wE;go_wp2_with fail
   refine Calls.mono nB.o ?_;rintro e gW ⟨kA,rfl,a7,aT,gX,hqf⟩;obtain ⟨pH,FW⟩:∃ pH,pH=kA:=⟨_,rfl⟩;rw [←FW] at a7 aT hqf;have M6:=C FW;have Hf:=C (show pH.ab=z from a7);have Q3:=C aT;have eV:=C (kT.o.trans gX);have WJ:=C (show du aE.heap.size uJ pH.aw from fun b ad=> by
    rcases hqf b ad with h | h
    ·rcases List.mem_append.1 h with h | h
     ·exact .inl h
     ·exact Q1.o b (by rw [zA.o];exact h)
    ·right;have:=kT.o.size;omega)
   have WK:=C (show ∀ b∈pH.aw,b≠U∧b≠U + 1 + 1 from fun b ad=> by
    have h0:=lt_of_block ba.o
    rcases WJ.o b ad with h | h
    ·have:=BO.o b h;have:=aB.o;omega
    ·omega)
   obtain ⟨jS,jT,jU,jV,jL,jM,jN,jO,jQ,jP,jg,jR⟩:=kA;simp only [MRe.val];have dx:=gX.au ar c1 c2 an av ay ax az;clear ar c1 c2 an av ay ax az;obtain ⟨ar,c1,c2,an,av,ay,ax,az⟩:=dx;replace au:=gX.c au;replace dg:=gX.c dg;have vM:=(fR (eV.o.h mm.o)).2.2.2.2.2.2.2.2.2.2;have CA:=US (eV.o.h mm.o) (H J jS) (M jT jV.length jU) (M jL jN.length jM) (H J jO) (H J jQ) (H J jP) (H J jg) (F jR);have abK:=jv gW U (H J jS) (M jT jV.length jU) (M jL jN.length jM) (H J jO) (H J jQ) (H J jP) (H J jg) (F jR);have BY:=C CA;have M3:=C abK;clear a7 aT gX hqf FW ep aJ cP eM eF eN eO eP cT CA abK nB;go_upto_region 13 with fail
   obtain ⟨aA,c5⟩:∃ aA,aA=hE gW U (H J jS) (M jT jV.length jU) (M jL jN.length jM) (H J jO) (H J jQ) (H J jP) (H J jg) (F jR):=⟨_,rfl⟩;rw [←c5] at BY M3
   show Code.wp _ _ _ _ (hE gW U (H J jS) (M jT jV.length jU) (M jL jN.length jM) (H J jO) (H J jQ) (H J jP) (H J jg) (F jR))
   rw [←c5];have VX:=C (Q3.o.bG M3.o fun b ad=> by have:=(WK.o b ad).1;simpa using this);have Hb:=C (M3.o.heap (eV.o.h ba.o) (by simp;omega));have vy:=C (show I [] w aA from (aH.o.trans eV.o).cn M3.o (by intro x hx;simp at hx;subst hx;exact .inr (by have:=aB.o;omega)));have H8:=Mb pH cp ru aA VX.o (by rw [Hf.o];exact A5.o);rw [show pH.ab=z from Hf.o,M6.o] at H8;simp only [fV,MRe.row,List.cons_append,List.nil_append] at H8;have Wd:=C H8;obtain ⟨g0,g1,g2,g3,kx,k4,dz,kE,fr,vQ,Ci⟩:=fR BY.o;clear c5 H8 ar c1 c2 an av ay ax az au dg vM Ci;go_wp2_with fail
   refine Calls.mono Wd.o ?_;rintro e eB ⟨rfl,ie⟩;have q3:=C ie;have dx:=ie.au g0 g1 g2 g3 kx k4 dz kE;clear g0 g1 g2 g3 kx k4 dz kE;obtain ⟨g0,g1,g2,g3,kx,k4,dz,kE⟩:=dx;replace fr:=ie.c fr;replace vQ:=ie.c vQ;clear ie Wd;have Df:=C (q3.o.h Hb.o)
   by_cases da:gZ z cp ru=0
   ·rw [da];have oN:=C (show R=(0,some z) by rw [yu.o,if_pos da]);have ho:=C (pe Df.o (H J jS) (M jT jV.length jU) (M jL jN.length jM) (H J jO) (H J jQ) (H J jP) (H J jg) (F jR) (H J cp) (F ru));have c3:=pf eB (U + 1 + 1) (H J jS) (M jT jV.length jU) (M jL jN.length jM) (H J jO) (H J jQ) (H J jP) (H J jg) (F jR) (H J cp) (F ru);have fZ:=C ((vy.o.trans q3.o).cn c3 (by intro x hx;simp at hx;subst hx;exact .inr (by have:=aB.o;omega)));have Jo:=C ((VX.o.ah q3.o).bG c3 fun b ad=> by have:=(WK.o b ad).2;simpa using this);obtain ⟨z0,z1,z2,z3,z4,z5,b9,cc,qf,z9,cj⟩:=fR Df.o;clear c3 da;go_wp2;refine bodyPost_ret (qb rfl _ _ (U + 1 + 1) 28 #[H J jS,M jT jV.length jU,M jL jN.length jM,H J jO,H J jQ,H J jP,H J jg,F jR,H J cp,F ru] (0,0) _ rfl ho.o Tryz.underlying28 rfl kO) rfl ?_;exact r6.iI pH (by rw [oN.o,show pH.ab=z from Hf.o]) (by rw [oN.o,M6.o];rfl) Jo.o fZ.o (fun b ad=> by
     rcases WJ.o b ad with h | h
     ·exact .inl h
     ·right;have:=aH.o.size;omega)
   ·have Bt:(gZ z cp ru !=0)=true:=by simpa using da
    have ga:=C (show R=(4,none) by rw [yu.o,if_neg da]);obtain ⟨v2,m9⟩:∃ v,v=gZ z cp ru:=⟨_,rfl⟩;rw [←m9] at Bt ⊢;have ho:=C (pe Df.o (H J 0) (M none 0 0) (M none 0 0) (H J 0) (H J 0) (H J 0) (H J 0) (F false) (H J 0) (F false));have fZ:=C ((vy.o.trans q3.o).cn (pf eB (U + 1 + 1) (H J 0) (M none 0 0) (M none 0 0) (H J 0) (H J 0) (H J 0) (H J 0) (F false) (H J 0) (F false)) (by intro x hx;simp at hx;subst hx;exact .inr (by have:=aB.o;omega)));obtain ⟨z0,z1,z2,z3,z4,z5,b9,cc,qf,z9,cj⟩:=fR Df.o;clear da m9;go_wp2;refine bodyPost_ret (qb rfl _ _ (U + 1 + 1) 28 #[H J 0,M none 0 0,M none 0 0,H J 0,H J 0,H J 0,H J 0,F false,H J 0,F false] (0,0) _ rfl ho.o Tryz.underlying28 rfl kO) rfl ?_;exact r6.dL (by rw [ga.o]) (by rw [ga.o];rfl) fZ.o
theorem aob {t:Tree} {cp:Int} {ru:Bool} (da:gZ t cp ru=0) {r:Nat} (aO:r < 17) (p:List Int):((j9 t cp ru r p).1==0)=CL t cp ru p r:=by
 simp only [j9,CL];rw [if_pos da,if_pos (by omega)]
 cases jW t p with
 | none=> rfl
 | some x=>
  simp only [zh,Int.toNat_natCast]
  cases rV r x with
  | none=> rfl
  | some y=>
   simp only [x9,L2]
   cases sr t cp ru p y with
   | none=> rfl
   | some z=> rfl
def Q5 (w:World) (t:Tree) (cp:Int) (ru:Bool) (e:Ending) (w':World):Prop:=
 ∃ a c rows,e=.returned (.tuple #[de a rows.length c,H J (gZ t cp ru)])∧tj w' 52 a c rows∧I [] w w'∧(rows.map ei.s=if gZ t cp ru=0 then ug t cp ru else [])∧(∀ r∈rows,r.path.length≤r.pc∧∀ aX,r.bP=some aX→w.heap.size≤aX.block)∧(∀ g,a=some g→w.heap.size≤g)∧∀ r∈rows,∀ aX,r.bP=some aX→aX.block < w'.heap.size∧some aX.block≠a
end Go.Proofs.YtjnlkjlbejelgaaGreat
