/- Part of the proof. No condition: every lemma says its own. -/
import Derived.Test.YtjnlkjlbejelgaaGreatProg
import Derived.Deep.RegionHeld3
import Derived.Deep.DeepCutAuto
import Derived.Laws.EntriesVeiled
import Derived.Laws.Tables
import Derived.Test.YtjnlkjlbejelgaaGreatRSPaa
namespace Go.Proofs.YtjnlkjlbejelgaaGreat
open Go.RowKit
open Go.Value renaming int→H,slice→M,bool→F
open Go.IntKind renaming i64→J
set_option maxRecDepth 100000
set_option maxHeartbeats 16000000
mutual
def ra:Tree→Tree→Int
 | .node op set kids mn mx mode n neg,b=> if ik (qO (.node op set kids mn mx mode n neg) b)≠0 then ik (qO (.node op set kids mn mx mode n neg) b) else rC kids b.kids
def rC:List Tree→List Tree→Int
 | x::xs,y::kZ=> if ra x y≠0 then ra x y else rC xs kZ
 | _,_=> 0
end
theorem Xt (a b:Tree):ra a b=if ik (qO a b)≠0 then ik (qO a b) else rC a.kids b.kids:=by
 cases a;rw [ra];rfl
theorem Ee (a b:List (Int × Int)):ik (a ++ b)=if ik a≠0 then ik a else ik b:=by
 induction a with
 | nil=> simp [ik]
 | cons x xs ih=>
  obtain ⟨p,ae⟩:=x;simp only [List.cons_append,ik,ih]
  by_cases h1:p < ae
  ·simp [h1]
  ·by_cases h2:ae < p
   ·simp [h1,h2]
   ·simp [h1,h2]
theorem LU {l:List (Int × Int)} (h:ik l=0):∀ p∈l,p.1=p.2:=by
 induction l with
 | nil=> simp
 | cons x xs ih=>
  obtain ⟨p,ae⟩:=x;simp only [ik] at h
  split at h
  ·omega
  ·split at h
   ·omega
   ·intro y hy
    rcases List.mem_cons.1 hy with rfl | hy
    ·show p=ae;omega
    ·exact ih h y hy
theorem alo {l:List (Int × Int)} (h:∀ p∈l,p.1=p.2):ik l=0:=by
 induction l with
 | nil=> rfl
 | cons x xs ih=>
  obtain ⟨p,ae⟩:=x
  have:=h (p,ae) (by simp)
  simp only at this;subst this;simp only [ik,Int.lt_irrefl,if_false];exact ih fun y hy=> h y (by simp [hy])
theorem an4 (l:List (Int × Int)):∀ p∈pg l l,p.1=p.2:=by
 induction l with
 | nil=> simp [pg]
 | cons x xs ih=>
  intro p hp;simp only [pg,GG,List.cons_append,List.nil_append,List.mem_cons] at hp
  rcases hp with rfl | rfl | hp
  ·rfl
  ·rfl
  ·exact ih p hp
theorem adA:∀ {l m:List (Int × Int)},l.length=m.length→(∀ p∈pg l m,p.1=p.2)→l=m
 | [],[],_,_=> rfl
 | x::xs,y::kZ,hl,h=> by
  have h1:=h (x.1,y.1) (by simp [pg,GG]);have h2:=h (x.2,y.2) (by simp [pg,GG]);rw [adA (l:=xs) (m:=kZ) (by simpa using hl) fun p hp=> h p (by simp [pg,hp])];obtain ⟨dI,ea⟩:=x;obtain ⟨y1,dp⟩:=y;simp only at h1 h2;rw [h1,h2]
 | [],y::kZ,hl,_=> by simp at hl
 | x::xs,[],hl,_=> by simp at hl
mutual
theorem RG:∀ a:Tree,ra a a=0
 | .node op set kids mn mx mode n neg=> by
  rw [ra,if_neg]
  ·exact Xu kids
  ·intro h
   apply h
   apply alo
   intro p hp;simp only [qO,xL,wi,List.mem_append,List.mem_cons,List.not_mem_nil,or_false,Tree.set] at hp
   rcases hp with (rfl | rfl) | hp | rfl | rfl | rfl | rfl | rfl | rfl
   all_goals (try rfl)
   exact an4 set p hp
theorem Xu:∀ l:List Tree,rC l l=0
 | []=> rfl
 | x::xs=> by rw [rC,if_neg (by rw [RG x];simp)];exact Xu xs
end
mutual
theorem XF:∀ (a b:Tree),ra a b=0→a=b
 | .node op set kids mn mx mode n neg,.node op' set' kids' mn' mx' mode' y3 neg',h=> by
  rw [ra] at h
  split at h
  ·contradiction
  ·rename_i h0
   have h0:ik (qO (.node op set kids mn mx mode n neg) (.node op' set' kids' mn' mx' mode' y3 neg'))=0:=by simpa using h0
   have h1:=LU h0;have m1:=h1 (op,op') (by simp [qO,xL,Tree.op]);have m2:=h1 ((set.length:Int),(set'.length:Int)) (by simp [qO,xL,Tree.set]);have m3:=h1 (mn,mn') (by simp [qO,wi,Tree.mn]);have o4:=h1 (mx,mx') (by simp [qO,wi,Tree.mx]);have mP:=h1 (mode,mode') (by simp [qO,wi,Tree.mode]);have abP:=h1 (n,y3) (by simp [qO,wi,Tree.n]);have abQ:=h1 (rb neg,rb neg') (by simp [qO,wi,Tree.neg]);have aly:=h1 ((kids.length:Int),(kids'.length:Int)) (by simp [qO,wi,Tree.kids]);simp only at m1 m2 m3 o4 mP abP abQ aly;have ko:set=set':=adA (by omega) fun p hp=> h1 p (by simp [qO,Tree.set,hp]);have OO:neg=neg':=by cases neg <;> cases neg' <;> simp [rb] at abQ <;> rfl
   have alx:kids=kids':=XG kids kids' (by omega) h;rw [m1,m3,o4,mP,abP,ko,OO,alx]
theorem XG:∀ (l m:List Tree),l.length=m.length→rC l m=0→l=m
 | [],[],_,_=> rfl
 | x::xs,y::kZ,hl,h=> by
  rw [rC] at h
  split at h
  ·contradiction
  ·rename_i h0
   rw [XF x y (by simpa using h0),XG xs kZ (by simpa using hl) h]
 | [],y::kZ,hl,_=> by simp at hl
 | x::xs,[],hl,_=> by simp at hl
end
theorem Nu (a b:Tree):ra a b=0↔a=b:=⟨XF a b,fun h=> h ▸ RG a⟩
instance:DecidableEq Tree:=fun a b=> decidable_of_iff _ (Nu a b)
def iQ (a b:Tree):Bool:=decide (ra a b=0)
theorem J7 (a b:Tree):iQ a b=true↔a=b:=by unfold iQ;rw [decide_eq_true_iff];exact Nu a b
theorem Eb:(Tryz.prog.info? 26).map (fun i=> (i.zero,i.size,i.bytes))=some (some (.agg #[H J 0,M none 0 0,M none 0 0,H J 0,H J 0,H J 0,H J 0,F false]),8,96):=by kernel_rfl
theorem mB:(Tryz.prog.info? 26).map (·.size)=some 8:=by kernel_rfl
def sg (op mn mx mode least nP:Int):Bool:=op==4 && (mode==0 && (mn==least && mx==nP))
theorem NA (m:MRe) (least nP:Int) (w:World):
  Calls Tryz.prog 126 #[m.val,H J least,H J nP] w fun e w'=> e=.returned (F (sg m.ab.op m.ab.mn m.ab.mx m.ab.mode least nP))∧I [] w w':=by
 obtain ⟨op,sa,sc,set,ka,kc,kids,mn,mx,mode,n,neg⟩:=m;simp only [MRe.val,MRe.ab,Tree.op,Tree.mn,Tree.mx,Tree.mode]
 by_cases h1:op=4
 ·by_cases h2:mode=0
  ·by_cases h3:mn=least
   ·by_cases h4:mx=nP
    all_goals
     go_enter Tryz.func126,Tryz.ntmps126
     go_wp2;go_ret;exact ⟨by simp [sg, *],(I.refl [] w).alloc _⟩
   ·go_enter Tryz.func126,Tryz.ntmps126
    go_wp2;go_ret;exact ⟨by simp [sg, *],(I.refl [] w).alloc _⟩
  ·go_enter Tryz.func126,Tryz.ntmps126
   go_wp2;go_ret;exact ⟨by simp [sg, *],(I.refl [] w).alloc _⟩
 ·go_enter Tryz.func126,Tryz.ntmps126
  go_wp2;go_ret;exact ⟨by simp [sg, *],(I.refl [] w).alloc _⟩
def oI (t:Tree):Bool:=sg t.op t.mn t.mx t.mode 0 (-1)
theorem Mf (m:MRe) (w:World):
  Calls Tryz.prog 125 #[m.val] w fun e w'=> e=.returned (F (oI m.ab))∧I [] w w':=by
 obtain ⟨ja,hm⟩:∃ ja,m=ja:=⟨_,rfl⟩;obtain ⟨op,sa,sc,set,ka,kc,kids,mn,mx,mode,n,neg⟩:=m;rw [show MRe.val (.node op sa sc set ka kc kids mn mx mode n neg)=.agg #[H J op,M sa set.length sc,M ka kids.length kc,H J mn,H J mx,H J mode,H J n,F neg] from rfl];have fe:=C (fun W=> NA ja 0 (-1) W);rw [←hm] at fe;simp only [MRe.val] at fe;clear hm;go_enter Tryz.func125,Tryz.ntmps125
 go_wp2_with fail
 refine Calls.mono (fe.o _) ?_;rintro e w2 ⟨rfl,hk⟩;have b6:=C hk;clear hk;go_wp2;go_ret;exact ⟨rfl,((I.refl [] w).alloc _).trans b6.o⟩
theorem mA {fn:Func} {R:Ending→World→Prop} {a:Act} {w:World} {p:Tmp} {g:Nat} {cs:Array Value} (hg:w.heap[g]? =some (.cells cs 26 (0,0))) (aY:R (.returned (.agg cs)) w) (h:fn.results=#[.cell p 26]:=by rfl) (hp:a.tmps.getD p undef=.pointer (some ⟨g,0,none⟩):=by rfl) (hi:8=cs.size:=by rfl) (dB:a.defers=[]:=by rfl):bodyPost Tryz.prog fn R .ret a w:=
 bodyPost_ret (results_cell_row h _ _ g 26 cs (0,0) _ hp hg Tryz.underlying26 rfl (by rw [mB,hi])) dB aY
theorem aln (l:List (Int × Int)) (k:Nat) (h:k < l.length):ik (l.drop k)=if l[k].1 < l[k].2 then -1 else if l[k].2 < l[k].1 then 1 else ik (l.drop (k + 1)):=by
 rw [List.drop_eq_getElem_cons h];rfl
theorem Ru (sa:Option Addr) (sc:Nat) (l:List (Int × Int)) (w:World) (h:eK w sa sc l):
  Calls Tryz.prog 103 #[M sa l.length sc] w fun e w'=> e=.returned (H J (ik l))∧I [] w w':=by
 have fc:=h.le;have hcap:=h.cap;unfold maxLen at hcap;have cW:=C h;clear h;go_enter Tryz.func103,Tryz.ntmps103
 go_wp2
 go_loopw [7] (fun i wr=> ∃ k:Nat,k≤l.length∧i=H J k∧ik (l.drop k)=ik l∧I [] w wr) (fun i _=> l.length - (intOf i).toNat)
 case atStart=> exact ⟨0,Nat.zero_le _,rfl,rfl,I.refl _ _⟩
 case round=>
  obtain ⟨k,hk,rfl,hl,ck⟩:=hrel;have jG:=C hl;have b6:=C ck
  by_cases aQ:k < l.length
  ·obtain ⟨b,off,rfl,ad,hc⟩:=(cW.o.ah ck).at_ (by omega);obtain ⟨ar,c1⟩:=hc k aQ;have dB:=aln l k aQ;have gi:=C dB;clear hl ck dB hc;obtain ⟨x,hx⟩:∃ x,x=l[k]:=⟨_,rfl⟩;rw [←hx] at ar c1 gi;clear hx;obtain ⟨p,ae⟩:=x;simp only at ar c1 gi;have ky:=gi.o
   by_cases h1:p < ae
   ·rw [if_pos h1] at ky;have wB:=C ky;clear ky;go_wp2;go_ret;exact ⟨by rw [←jG.o,wB.o];rfl,b6.o.alloc _⟩
   ·by_cases h2:ae < p
    ·rw [if_neg h1,if_pos h2] at ky;have wB:=C ky;clear ky;go_wp2;go_ret;exact ⟨by rw [←jG.o,wB.o];rfl,b6.o.alloc _⟩
    ·rw [if_neg h1,if_neg h2] at ky;have wB:=C ky;clear ky;go_wp2;go_roundw
     case rel=> exact ⟨k + 1,by omega,by go_num,by rw [←wB.o,jG.o],b6.o.alloc _⟩
     case measure=> simp [intOf];omega
  ·obtain rfl:k=l.length:=by omega
   clear hl ck;go_wp2;go_ret;exact ⟨by rw [←jG.o,List.drop_length];rfl,b6.o⟩
theorem eK.UA (w:World) (l:List (Int × Int)) (cs:Array Value) (T:Nat) (hc:cs.toList=gU l) (hm:l.length≤maxLen):eK (w.alloc (.cells cs T)).drew (some ⟨w.heap.size,0,none⟩) l.length l:=
 eK.kq (w:=(w.alloc (.cells cs T)).drew) (heap_alloc_new w (.cells cs T)) hc hm
theorem aiE (b:Bool) (w:World):Calls Tryz.prog 104 #[F b] w fun e w'=> e=.returned (H J (rb b))∧w=w':=by
 cases b
 all_goals
  go_enter Tryz.func104,Tryz.ntmps104
  go_wp2;go_ret;exact ⟨rfl,rfl⟩
theorem an3:∀ (a b:List (Int × Int)) (k:Nat) (b8:k < a.length) (ad:k < b.length),pg (a.drop k) (b.drop k)=GG a[k] b[k] ++ pg (a.drop (k + 1)) (b.drop (k + 1)):=by
 intro a b k b8 ad;rw [List.drop_eq_getElem_cons b8,List.drop_eq_getElem_cons ad];rfl
theorem aiw (b1 cR b2 eH:Nat) (m1 m2:MRe) (w:World) (h1:fb w b1 cR m1) (h2:fb w b2 eH m2) (aj:m1.aK w) (cV:m2.aK w):
  Calls Tryz.prog 67 #[.pointer (some ⟨b1,cR,none⟩),.pointer (some ⟨b2,eH,none⟩)] w fun e w'=> e=.returned (H J (ik (qO m1.ab m2.ab)))∧I [] w w':=by
 obtain ⟨op1,aM,aN,set1,aS,kc1,aq,mn1,aI,mode1,n1,aL⟩:=m1;obtain ⟨op2,cg,cf,bj,ct,kc2,a8,mn2,bY,bX,bn,bZ⟩:=m2;have gQ:=aj.nV;have gn:=cV.nV;have hB:=aj.ch.le;have kV:=cV.ch.le;have DD:=aj.ch.cap;have Kv:=cV.ch.cap;have oB:=gQ.le;have m6:=gn.le;have Kt:=gQ.cap;have Ku:=gn.cap;unfold maxLen at DD Kv Kt Ku;have g1:=h1.node;have g2:=h2.node;have ar:=g1.ar;have c1:=g1.c1;have bK:=g2.ar;have d1:=g2.c1;have vu:=C g1;have r0:=C g2;have qn:=C gQ;have j3:=C gn;clear aj cV h1 h2 gQ gn g1 g2;simp only [MRe.ab];obtain ⟨T1,sk⟩:∃ T,T=Tree.node op1 set1 (MRe.al aq) mn1 aI mode1 n1 aL:=⟨_,rfl⟩;obtain ⟨T2,tr⟩:∃ T,T=Tree.node op2 bj (MRe.al a8) mn2 bY bX bn bZ:=⟨_,rfl⟩;rw [←sk,←tr];have hh:xL T1 T2=[(op1,op2),((set1.length:Int),(bj.length:Int))]:=by rw [sk,tr];rfl
 have hp:wi T1 T2=[(mn1,mn2),(aI,bY),(mode1,bX),(n1,bn),(rb aL,rb bZ),((aq.length:Int),(a8.length:Int))]:=by rw [sk,tr];simp [wi,Tree.mn,Tree.mx,Tree.mode,Tree.n,Tree.neg,Tree.kids,MRe.ee]
 have aaI:pg T1.set T2.set=pg set1 bj:=by rw [sk,tr];rfl
 have AV:=C hh;have eg:=C hp;have V3:=C aaI;clear hh hp aaI sk tr;have rF:ik (qO T1 T2)=if ik (xL T1 T2)≠0 then ik (xL T1 T2) else if ik (pg set1 bj)≠0 then ik (pg set1 bj) else ik (wi T1 T2):=by
  unfold qO;rw [Ee,Ee,V3.o]
 have dP:=C rF;clear rF;obtain ⟨q1,p3⟩:∃ ae,ae=ik [(op1,op2),((set1.length:Int),(bj.length:Int))]:=⟨_,rfl⟩;obtain ⟨kr,Tz⟩:∃ ae,ae=ik [(mn1,mn2),(aI,bY),(mode1,bX),(n1,bn),(rb aL,rb bZ),((aq.length:Int),(a8.length:Int))]:=⟨_,rfl⟩;rw [AV.o,eg.o,←p3,←Tz] at dP;have BV:=C p3;have MI:=C Tz;clear p3 Tz AV eg V3;have jC:q1=0→set1.length=bj.length:=fun h=> by have h2:=LU (BV.o.symm.trans h) ((set1.length:Int),(bj.length:Int)) (by simp);simp only at h2;omega
 have yo:=C jC;clear jC;go_enter Tryz.func67,Tryz.ntmps67
 go_wp2
 go_region_held3 (fun w'=> w'.cell? ⟨b1,cR,none⟩=some (H J op1)∧w'.cell? ⟨b1,cR + 1,none⟩=some (M aM set1.length aN)∧w'.cell? ⟨b2,eH,none⟩=some (H J op2)∧w'.cell? ⟨b2,eH + 1,none⟩=some (M cg bj.length cf))
  (first | exact ⟨ar,c1,bK,d1⟩ | exact ⟨er.o.c ar,er.o.c c1,er.o.c bK,er.o.c d1⟩ | exact ⟨((I.refl [] w).alloc _).drew.c ar,((I.refl [] w).alloc _).drew.c c1,((I.refl [] w).alloc _).drew.c bK,((I.refl [] w).alloc _).drew.c d1⟩)
  (first
   | (go_at_call 103;refine Calls.mono (Ru (some ⟨w.heap.size,0,none⟩) 2 [(op1,op2),((set1.length:Int),(bj.length:Int))] _ (eK.UA w [(op1,op2),((set1.length:Int),(bj.length:Int))] #[H J op1,H J op2,H J set1.length,H J bj.length] 111 rfl (by simp [maxLen]))) ?_;rintro e w2 ⟨rfl,hk2⟩;rw [←BV.o];have er:=C ((((I.refl [] w).alloc _).drew).trans hk2);clear hk2))
 by_cases aW:q1=0
 ·have Lg:=yo.o aW;have DQ:(if (q1≠0) then q1 else if ik (pg set1 bj)≠0 then ik (pg set1 bj) else kr)=if ik (pg set1 bj)≠0 then ik (pg set1 bj) else kr:=by rw [if_neg (by simp [aW])]
  rw [DQ] at dP;clear DQ;obtain rfl:=aW;have aej:=C er.o;have aV:=er.o.c c1;have Qa:=C Lg;clear ar c1 bK d1 er Lg yo;go_wp2
  go_loopw [39] (fun i wr=> ∃ k:Nat,k≤set1.length∧i=H J k∧ik (pg (set1.drop k) (bj.drop k))=ik (pg set1 bj)∧I [] w wr) (fun i _=> set1.length - (intOf i).toNat)
  case atStart=> exact ⟨0,Nat.zero_le _,rfl,rfl,aej.o⟩
  case round=>
   obtain ⟨k,hk,rfl,hl,ck⟩:=hrel;have jG:=C hl;have b6:=C ck
   by_cases aQ:k < set1.length
   ·have s0:k < bj.length:=by rw [←Qa.o];exact aQ
    obtain ⟨b,off,rfl,ad,hc⟩:=(qn.o.ah ck).at_ (by omega);obtain ⟨iw,off',rfl,m5,YY⟩:=(j3.o.ah ck).at_ (by omega);obtain ⟨dv,dI⟩:=hc k aQ;obtain ⟨c6,y1⟩:=YY k s0;have d1:=ck.cell r0.o.c1 (by simp);have dB:=an3 set1 bj k aQ s0;have gi:=C dB;clear hl ck dB hc YY
    generalize set1[k]=x at *
    generalize bj[k]=y at *
    obtain ⟨p,ae⟩:=x;obtain ⟨vi,q'⟩:=y;simp only at dv dI c6 y1;have ky:ik (pg set1 bj)=if ik [(p,vi),(ae,q')]≠0 then ik [(p,vi),(ae,q')] else ik (pg (set1.drop (k + 1)) (bj.drop (k + 1))):=by rw [←jG.o,gi.o,Ee];rfl
    obtain ⟨q2,rf⟩:∃ q2,q2=ik [(p,vi),(ae,q')]:=⟨_,rfl⟩;rw [←rf] at ky;have Qx:=C rf;have wB:=C ky;clear rf ky gi;have Bv:I [] wr (wr.alloc (.cells #[H J p,H J ae] 86)):=(I.refl [] wr).alloc _;have v0:(wr.alloc (.cells #[H J p,H J ae] 86)).cell? ⟨wr.heap.size,0,none⟩=some (H J p):=Bd _ _ _ _;have v1:(wr.alloc (.cells #[H J p,H J ae] 86)).cell? ⟨wr.heap.size,1,none⟩=some (H J ae):=Bd _ _ _ _;have u1:=Bv.c d1;have z0:=Bv.c c6;have z1:=Bv.c y1;have ma:=C (b6.o.trans Bv);clear Bv d1 c6 y1;go_upto_region 7 with fail
    clear dv dI b6;obtain ⟨U,gA⟩:∃ U,U=wr.heap.size:=⟨_,rfl⟩;rw [←gA] at v0 v1 ⊢
    generalize wr.alloc (.cells #[H J p,H J ae] 86)=ak at *
    clear ad m5 gA
    go_region_held3 (fun w'=> w'.cell? ⟨U,0,none⟩=some (H J p)∧w'.cell? ⟨U,1,none⟩=some (H J ae)∧w'.cell? ⟨b2,eH + 1,none⟩=some (M (some ⟨iw,off',none⟩) bj.length cf)∧w'.cell? ⟨iw,off' + k * 2,none⟩=some (H J vi)∧w'.cell? ⟨iw,off' + k * 2 + 1,none⟩=some (H J q'))
     (first | exact ⟨v0,v1,u1,z0,z1⟩ | exact ⟨er.o.c v0,er.o.c v1,er.o.c u1,er.o.c z0,er.o.c z1⟩ | exact ⟨((I.refl [] ak).alloc _).drew.c v0,((I.refl [] ak).alloc _).drew.c v1,((I.refl [] ak).alloc _).drew.c u1,((I.refl [] ak).alloc _).drew.c z0,((I.refl [] ak).alloc _).drew.c z1⟩)
     (first
      | (go_at_call 103;refine Calls.mono (Ru (some ⟨ak.heap.size,0,none⟩) 2 [(p,vi),(ae,q')] _ (eK.UA ak [(p,vi),(ae,q')] #[H J p,H J vi,H J ae,H J q'] 111 rfl (by simp [maxLen]))) ?_;rintro e w3 ⟨rfl,aP⟩;rw [←Qx.o];have er:=C ((((I.refl [] ak).alloc _).drew).trans aP);clear aP))
    have iX:=C (ma.o.trans er.o);clear v0 v1 u1 z0 z1 er ma
    by_cases hq:q2=0
    ·have ky:=wB.o;rw [if_neg (by simp [hq])] at ky;have rZ:=C ky;clear ky wB;subst hq;go_wp2;go_roundw
     case rel=> exact ⟨k + 1,by omega,by go_num,rZ.o.symm,iX.o⟩
     case measure=> simp [intOf];omega
    ·have ky:=wB.o;rw [if_pos hq] at ky;have pw:=dP.o;rw [ky,if_pos hq] at pw;have tO:=C pw;have vY:(q2 !=0)=true:=by simp [hq]
     clear ky wB pw dP;go_wp2;go_ret;exact ⟨by rw [tO.o];rfl,iX.o⟩
   ·obtain rfl:k=set1.length:=by omega
    have h0:ik (pg set1 bj)=0:=by rw [←jG.o,List.drop_length];rfl
    have pw:=dP.o;rw [h0] at pw;simp only [ne_eq,not_true,if_false] at pw;have tO:=C pw;have ep:=vu.o;have aJ:=r0.o;have kk:=b6.o;have jh:=kk.cell ep.an (by simp);have ji:=kk.cell ep.av (by simp);have lq:=kk.cell ep.ay (by simp);have lr:=kk.cell ep.ax (by simp);have lu:=kk.cell ep.az (by simp);have p2:=kk.cell ep.c2 (by simp);have nR:=kk.cell aJ.an (by simp);have jj:=kk.cell aJ.av (by simp);have ir:=kk.cell aJ.ay (by simp);have vj:=kk.cell aJ.ax (by simp);have vk:=kk.cell aJ.az (by simp);have iz:=kk.cell aJ.c2 (by simp);clear hl ck h0 pw dP ep aJ kk;go_upto_region 11 with fail
    go_region_held3 (fun w'=> w'.cell? ⟨b1,cR + 3,none⟩=some (H J mn1)∧w'.cell? ⟨b1,cR + 4,none⟩=some (H J aI)∧w'.cell? ⟨b1,cR + 5,none⟩=some (H J mode1)∧w'.cell? ⟨b1,cR + 6,none⟩=some (H J n1)∧w'.cell? ⟨b1,cR + 7,none⟩=some (F aL)∧w'.cell? ⟨b1,cR + 2,none⟩=some (M aS aq.length kc1)∧
      w'.cell? ⟨b2,eH + 3,none⟩=some (H J mn2)∧w'.cell? ⟨b2,eH + 4,none⟩=some (H J bY)∧w'.cell? ⟨b2,eH + 5,none⟩=some (H J bX)∧w'.cell? ⟨b2,eH + 6,none⟩=some (H J bn)∧w'.cell? ⟨b2,eH + 7,none⟩=some (F bZ)∧w'.cell? ⟨b2,eH + 2,none⟩=some (M ct a8.length kc2))
     (first | exact ⟨jh,ji,lq,lr,lu,p2,nR,jj,ir,vj,vk,iz⟩ | exact ⟨er.o.c jh,er.o.c ji,er.o.c lq,er.o.c lr,er.o.c lu,er.o.c p2,er.o.c nR,er.o.c jj,er.o.c ir,er.o.c vj,er.o.c vk,er.o.c iz⟩ | exact ⟨((I.refl [] wr).alloc _).drew.c jh,((I.refl [] wr).alloc _).drew.c ji,((I.refl [] wr).alloc _).drew.c lq,((I.refl [] wr).alloc _).drew.c lr,((I.refl [] wr).alloc _).drew.c lu,((I.refl [] wr).alloc _).drew.c p2,((I.refl [] wr).alloc _).drew.c nR,((I.refl [] wr).alloc _).drew.c jj,((I.refl [] wr).alloc _).drew.c ir,((I.refl [] wr).alloc _).drew.c vj,((I.refl [] wr).alloc _).drew.c vk,((I.refl [] wr).alloc _).drew.c iz⟩)
     (first
      | (go_at_call 104;refine Calls.mono (aiE _ _) ?_;rintro e w3 ⟨rfl,rfl⟩)
      | (go_at_call 103;refine Calls.mono (Ru (some ⟨wr.heap.size,0,none⟩) 6 [(mn1,mn2),(aI,bY),(mode1,bX),(n1,bn),(rb aL,rb bZ),((aq.length:Int),(a8.length:Int))] _ (eK.UA wr [(mn1,mn2),(aI,bY),(mode1,bX),(n1,bn),(rb aL,rb bZ),((aq.length:Int),(a8.length:Int))] #[H J mn1,H J mn2,H J aI,H J bY,H J mode1,H J bX,H J n1,H J bn,H J (rb aL),H J (rb bZ),H J aq.length,H J a8.length] 111 rfl (by simp [maxLen]))) ?_;rintro e w3 ⟨rfl,aP⟩;rw [←MI.o];have er:=C ((((I.refl [] wr).alloc _).drew).trans aP);clear aP))
    have iX:=C (b6.o.trans er.o);clear jh ji lq lr lu p2 nR jj ir vj vk iz er;go_wp2;go_ret;exact ⟨by rw [tO.o];rfl,iX.o⟩
 ·have pw:=dP.o;rw [if_pos aW] at pw;have tO:=C pw;have vY:(q1 !=0)=true:=by simp [aW]
  clear pw dP yo ar c1 bK d1;go_wp2;go_ret;exact ⟨by rw [tO.o];rfl,er.o⟩
theorem MRe.nq {P:MRe→Prop} (h:∀ op sa sc set ka kc kids mn mx mode n neg,(∀ k∈kids,P k)→P (.node op sa sc set ka kc kids mn mx mode n neg)):∀ m,P m:=by
 intro m
 induction ad:m.ab.bm using Nat.strongRecOn generalizing m with
 | _ b ih=>
  cases m with
  | node op sa sc set ka kc kids mn mx mode n neg=>
   refine h op sa sc set ka kc kids mn mx mode n neg fun k hk=> ih k.ab.bm ?_ k rfl;subst ad
   have:k.ab∈MRe.al kids:=by rw [MRe.kP];exact List.mem_map_of_mem hk
   have:=Tree.Ff this
   simp only [MRe.ab,Tree.bm];omega
theorem wt (l:List MRe) (k:Nat) (h:k < l.length):(MRe.al l).drop k=l[k].ab::(MRe.al l).drop (k + 1):=by
 rw [MRe.kP,←List.map_drop,List.drop_eq_getElem_cons h,List.map_cons,←List.map_drop]
theorem aix (m1:MRe):∀ (m2:MRe) (b1 cR b2 eH c:Nat) (w:World),fb w b1 cR m1→fb w b2 eH m2→m1.aK w→m2.aK w→w.cell? ⟨c,0,none⟩=some (.func (Fn.func 66) #[] #[.pointer (some ⟨c,0,none⟩)])→
  Calls Tryz.prog 66 #[.pointer (some ⟨b1,cR,none⟩),.pointer (some ⟨b2,eH,none⟩),.pointer (some ⟨c,0,none⟩)] w fun e w'=> e=.returned (H J (ra m1.ab m2.ab))∧I [] w w':=by
 induction m1 using MRe.nq with
 | h op1 aM aN set1 aS kc1 aq mn1 aI mode1 n1 aL ih=>
  intro m2 b1 cR b2 eH c w h1 h2 aj cV hc;have bI:=C (fun W (hk:I [] w W)=> aiw b1 cR b2 eH _ m2 W (h1.ah hk) (h2.ah hk) (aj.ah hk) (cV.ah hk));have xK:=Xt (MRe.node op1 aM aN set1 aS kc1 aq mn1 aI mode1 n1 aL).ab m2.ab;obtain ⟨T1,sk⟩:∃ T,T=(MRe.node op1 aM aN set1 aS kc1 aq mn1 aI mode1 n1 aL).ab:=⟨_,rfl⟩;obtain ⟨T2,tr⟩:∃ T,T=m2.ab:=⟨_,rfl⟩;rw [←sk,←tr] at bI xK ⊢;obtain ⟨ae,hq⟩:∃ ae,ae=ik (qO T1 T2):=⟨_,rfl⟩;rw [←hq] at bI xK;have jC:ae=0→(MRe.al aq).length=T2.kids.length:=fun h=> by
   have h2:=LU (hq.symm.trans h) ((T1.kids.length:Int),(T2.kids.length:Int)) (by simp [qO,wi]);simp only at h2;have h3:T1.kids=MRe.al aq:=by rw [sk];rfl
   rw [h3] at h2;omega
  have YD:T1.kids=MRe.al aq:=by rw [sk];rfl
  rw [YD] at xK;have ni:=C xK;have yo:=C jC;have QH:=C tr;have ff:=C ih;have a2:=h1.node.c2;have hB:=aj.ch.le;have DD:=aj.ch.cap;unfold maxLen at DD;have iL:=C aj.kids;have VK:=C h2;have bQ:=C cV;clear ih hq xK jC sk tr YD h1 h2 aj cV;go_enter Tryz.func66,Tryz.ntmps66
  go_wp2_with fail
  refine Calls.mono (bI.o _ (I.refl _ _)) ?_;rintro e w2 ⟨rfl,hk2⟩;have a6:=hk2.c a2;have aiJ:=hk2.c hc;have Ji:=C hk2;clear hk2 a2 hc bI
  by_cases aW:ae=0
  ·have hl:=yo.o aW;have n5:=ni.o;rw [if_neg (by simp [aW])] at n5;have yj:=C n5;obtain ⟨op2,cg,cf,bj,ct,kc2,a8,mn2,bY,bX,bn,bZ⟩:=m2;have YE:T2.kids=MRe.al a8:=by rw [QH.o];rfl
   rw [YE] at hl yj;rw [MRe.ee,MRe.ee] at hl;have jG:=C hl;have d2:=Ji.o.cell VK.o.node.c2 (by simp);have MB:=C bQ.o.kids;clear hl n5 YE yo ni VK bQ;subst aW;go_wp2
   go_loopw [20] (fun i wr=> ∃ k:Nat,k≤aq.length∧i=H J k∧rC ((MRe.al aq).drop k) ((MRe.al a8).drop k)=rC (MRe.al aq) (MRe.al a8)∧I [] w2 wr) (fun i _=> aq.length - (intOf i).toNat)
   case atStart=> exact ⟨0,Nat.zero_le _,rfl,rfl,I.refl _ _⟩
   case round=>
    obtain ⟨k,hk,rfl,hl,ck⟩:=hrel;have BL:=C hl;have b6:=C ck
    by_cases aQ:k < aq.length
    ·have s0:k < a8.length:=by rw [←jG.o];exact aQ
     have gC:=Ji.o.trans ck;obtain ⟨b,off,rfl,ad,hx⟩:=(iL.o.ah gC).ch.dy (by omega);obtain ⟨iw,off',rfl,m5,hx'⟩:=(MB.o.ah gC).ch.dy (by omega);have dI:=ck.c a6;have ea:=ck.c d2;have fo:=ck.c aiJ;have km:=(iL.o.ah gC).all aq[k] (List.getElem_mem aQ);have tX:=(MB.o.ah gC).all a8[k] (List.getElem_mem s0);have iU:=C (fun W (h:I [] wr W)=> ff.o aq[k] (List.getElem_mem aQ) a8[k] b (off + k * 8) iw (off' + k * 8) c W ((hx k aQ).ah h) ((hx' k s0).ah h) (km.ah h) (tX.ah h) (h.c fo));have dB:rC (MRe.al aq) (MRe.al a8)=if ra aq[k].ab a8[k].ab≠0 then ra aq[k].ab a8[k].ab else rC ((MRe.al aq).drop (k + 1)) ((MRe.al a8).drop (k + 1)):=by
      rw [←hl,wt aq k aQ,wt a8 k s0,rC]
     obtain ⟨ae,hq⟩:∃ ae,ae=ra aq[k].ab a8[k].ab:=⟨_,rfl⟩;rw [←hq] at dB iU;have gi:=C dB;have ZP:=MB.o.ch.le;have NS:=MB.o.ch.cap;unfold maxLen at NS;clear hq dB km tX hx hx' gC hl ck ff;go_wp2
     go_region_held3 (fun w'=> w'.cell? ⟨c,0,none⟩=some (.func (Fn.func 66) #[] #[.pointer (some ⟨c,0,none⟩)])∧w'.cell? ⟨b1,cR + 2,none⟩=some (M (some ⟨b,off,none⟩) aq.length kc1)∧w'.cell? ⟨b2,eH + 2,none⟩=some (M (some ⟨iw,off',none⟩) a8.length kc2))
      (first | exact ⟨fo,dI,ea⟩ | exact ⟨er.o.c fo,er.o.c dI,er.o.c ea⟩)
      (first
       | (go_at_call 66;refine Calls.mono (iU.o _ ((I.refl [] wr).drew)) ?_;rintro e w3 ⟨rfl,aP⟩;have er:=C (((I.refl [] wr).drew).trans aP);clear aP))
     have iX:=C (b6.o.trans er.o);clear dI ea fo er iU
     by_cases hq:ae=0
     ·have ky:=gi.o;rw [if_neg (by simp [hq])] at ky;have rZ:=C ky;clear ky gi;subst hq;go_wp2;go_roundw
      case rel=> exact ⟨k + 1,by omega,by go_num,rZ.o.symm,iX.o⟩
      case measure=> simp [intOf];omega
     ·have ky:=gi.o;rw [if_pos hq] at ky;have wB:=C ky;have vY:(ae !=0)=true:=by simp [hq]
      clear ky gi;go_wp2;go_ret;exact ⟨by rw [yj.o,wB.o];rfl,Ji.o.trans iX.o⟩
    ·obtain rfl:k=aq.length:=by omega
     have h0:rC (MRe.al aq) (MRe.al a8)=0:=by rw [←hl,List.drop_of_length_le (by rw [MRe.ee];omega)];simp [rC]
     have BH:=C h0;clear hl ck h0;go_wp2;go_ret;exact ⟨by rw [yj.o,BH.o];rfl,Ji.o.trans b6.o⟩
  ·have n5:=ni.o;rw [if_pos aW] at n5;have yj:=C n5;have vY:(ae !=0)=true:=by simp [aW]
   clear n5 ni yo;go_wp2;go_ret;exact ⟨by rw [yj.o];rfl,Ji.o⟩
theorem Rq (m1 m2:MRe) (w:World) (aj:m1.aK w) (cV:m2.aK w):
  Calls Tryz.prog 31 #[m1.val,m2.val] w fun e w'=> e=.returned (H J (ra m1.ab m2.ab))∧I [] w w':=by
 have jd:=C (aix m1 m2);have iL:=C aj;have bQ:=C cV;obtain ⟨ju,gL⟩:∃ r,r=m1:=⟨_,rfl⟩;obtain ⟨iz,p4⟩:∃ r,r=m2:=⟨_,rfl⟩;obtain ⟨op1,aM,aN,set1,aS,kc1,aq,mn1,aI,mode1,n1,aL⟩:=m1;obtain ⟨op2,cg,cf,bj,ct,kc2,a8,mn2,bY,bX,bn,bZ⟩:=m2;simp only [MRe.val];have m8:∀ (fn:Fn) (first cap:Array Value) (w:World),(Instr.makeFunc fn first cap).run Tryz.prog w=.ok (.func fn first cap) w:=fun _ _ _ _=> rfl;rw [←gL] at jd iL ⊢;rw [←p4] at jd bQ ⊢;have ou:ju.row=[H J op1,M aM set1.length aN,M aS aq.length kc1,H J mn1,H J aI,H J mode1,H J n1,F aL]:=by rw [gL];rfl
 have WO:iz.row=[H J op2,M cg bj.length cf,M ct a8.length kc2,H J mn2,H J bY,H J bX,H J bn,F bZ]:=by rw [p4];rfl
 have gN:=C ou;have cw:=C WO;clear gL p4 ou WO aj cV;go_enter Tryz.func31,Tryz.ntmps31
 go_wp2_with fail
 refine Calls.mono (jd.o w.heap.size 0 (w.heap.size + 1) 0 (w.heap.size + 1 + 1) _ ?_ ?_ ?_ ?_ ?_) ?_
 ·exact fb.ah (fb.box gN.o.symm) (I.a2 _ _ _)
 ·have h:=fb.box (w:=w.alloc (bf op1 aM set1 aN aS aq kc1 mn1 aI mode1 n1 aL)) (T:=26) cw.o.symm;rw [show (w.alloc (bf op1 aM set1 aN aS aq kc1 mn1 aI mode1 n1 aL)).heap.size=w.heap.size + 1 by simp] at h;exact h.ah (I.a1 _ _)
 ·exact iL.o.ah (I.a3 w _ _ _)
 ·exact bQ.o.ah (I.a3 w _ _ _)
 ·have h:=Bd ((w.alloc (bf op1 aM set1 aN aS aq kc1 mn1 aI mode1 n1 aL)).alloc (bf op2 cg bj cf ct a8 kc2 mn2 bY bX bn bZ)) #[.func (Fn.func 66) #[] #[.pointer (some ⟨w.heap.size + 1 + 1,0,none⟩)]] 92 0
  simpa using h
 rintro e w2 ⟨rfl,hk⟩;have b6:=C ((I.a3 w _ _ _).trans hk);clear hk;go_wp2;go_ret;exact ⟨rfl,b6.o⟩
theorem Hx (m1 m2:MRe) (w:World) (aj:m1.aK w) (cV:m2.aK w):
  Calls Tryz.prog 117 #[m1.val,m2.val] w fun e w'=> e=.returned (F (iQ m1.ab m2.ab))∧I [] w w':=by
 have jd:=C (fun W (h:I [] w W)=> Rq m1 m2 W (aj.ah h) (cV.ah h));obtain ⟨T1,h1⟩:∃ T,T=m1.ab:=⟨_,rfl⟩;obtain ⟨T2,h2⟩:∃ T,T=m2.ab:=⟨_,rfl⟩;rw [←h1,←h2] at jd ⊢;obtain ⟨op1,aM,aN,set1,aS,kc1,aq,mn1,aI,mode1,n1,aL⟩:=m1;obtain ⟨op2,cg,cf,bj,ct,kc2,a8,mn2,bY,bX,bn,bZ⟩:=m2;simp only [MRe.val] at jd ⊢;clear aj cV h1 h2;go_enter Tryz.func117,Tryz.ntmps117
 go_wp2_with fail
 refine Calls.mono (jd.o _ (I.a2 w _ _)) ?_;rintro e w2 ⟨rfl,hk⟩;have b6:=C ((I.a2 w _ _).trans hk);clear hk;go_wp2;go_ret;refine ⟨?_,b6.o⟩;unfold iQ
 by_cases h:ra T1 T2=0
 ·simp [h]
 ·simp [h]
def df (n:Nat) (a:Option Addr):List Nat:=if n=0 then [] else a.toList.map Addr.block
mutual
def MRe.aw:MRe→List Nat
 | .node _ sa _ set ka _ kids _ _ _ _ _=> df set.length sa ++ (df kids.length ka ++ MRe.dN kids)
def MRe.dN:List MRe→List Nat
 | []=> []
 | k::ks=> k.aw ++ MRe.dN ks
end
theorem MRe.JZ (l:List MRe):MRe.dN l=l.flatMap MRe.aw:=by
 induction l with
 | nil=> rfl
 | cons k ks ih=> simp [MRe.dN,ih]
theorem MRe.mQ {l:List MRe} {k:MRe} {b:Nat} (hk:k∈l) (ad:b∈k.aw):b∈MRe.dN l:=by
 rw [MRe.JZ];exact List.mem_flatMap.2 ⟨k,hk,ad⟩
theorem MRe.tm {l:List MRe} {b:Nat} (h:b∈MRe.dN l):∃ k∈l,b∈k.aw:=by
 rw [MRe.JZ] at h;exact List.mem_flatMap.1 h
theorem eK.bG {S:List Nat} {w w':World} {sa:Option Addr} {sc:Nat} {set:List (Int × Int)} (h:eK w sa sc set) (k:I S w w') (hs:∀ b∈df set.length sa,b ∉ S):eK w' sa sc set:=
 ⟨h.le,h.cap,h.Ei,fun h0=> by
  obtain ⟨b,off,h1,ad,h2⟩:=h.at_ h0;refine ⟨b,off,h1,Nat.lt_of_lt_of_le ad k.size,fun i hi=> ?_⟩
  have:b ∉ S:=hs b (by unfold df;rw [if_neg (by omega),h1];simp)
  exact ⟨k.cell (h2 i hi).1 this,k.cell (h2 i hi).2 this⟩⟩
theorem hH.bG {S:List Nat} {w w':World} {ka:Option Addr} {kc:Nat} {kids:List MRe} (h:hH w ka kc kids) (k:I S w w') (hs:∀ b∈df kids.length ka,b ∉ S):hH w' ka kc kids:=
 ⟨h.le,h.cap,h.Ei,fun h0=> by
  obtain ⟨b,off,h1,ad,h2⟩:=h.at_ h0;refine ⟨b,off,h1,Nat.lt_of_lt_of_le ad k.size,fun i hi j c8=> ?_⟩
  have:b ∉ S:=hs b (by unfold df;rw [if_neg (by omega),h1];simp)
  exact k.cell (h2 i hi j c8) this⟩
theorem MRe.aK.bG {S:List Nat} {w w':World} (k:I S w w') {m:MRe} (h:m.aK w) (hs:∀ b∈m.aw,b ∉ S):m.aK w':=by
 induction h with
 | mk dF hk _ ih=>
  simp only [MRe.aw,List.mem_append] at hs;exact .mk (dF.bG k fun b ad=> hs b (.inl ad)) (hk.bG k fun b ad=> hs b (.inr (.inl ad))) fun x hx=> ih x hx fun b ad=> hs b (.inr (.inr (MRe.mQ hx ad)))
theorem gT.bG {S:List Nat} {w w':World} {ka:Option Addr} {kc:Nat} {kids:List MRe} (h:gT w ka kc kids) (k:I S w w') (hs:∀ b∈df kids.length ka ++ MRe.dN kids,b ∉ S):gT w' ka kc kids:=
 ⟨h.ch.bG k fun b ad=> hs b (List.mem_append_left _ ad),fun x hx=> (h.all x hx).bG k fun b ad=> hs b (List.mem_append_right _ (MRe.mQ hx ad))⟩
theorem eK.fi {w:World} {sa:Option Addr} {sc:Nat} {set:List (Int × Int)} (h:eK w sa sc set):∀ b∈df set.length sa,b < w.heap.size:=by
 intro b ad;unfold df at ad
 split at ad
 ·simp at ad
 ·obtain ⟨iw,off,h1,h2,_⟩:=h.at_ (by have:=h.le;omega);rw [h1] at ad;simp at ad;omega
theorem hH.fi {w:World} {ka:Option Addr} {kc:Nat} {kids:List MRe} (h:hH w ka kc kids):∀ b∈df kids.length ka,b < w.heap.size:=by
 intro b ad;unfold df at ad
 split at ad
 ·simp at ad
 ·obtain ⟨iw,off,h1,h2,_⟩:=h.at_ (by have:=h.le;omega);rw [h1] at ad;simp at ad;omega
theorem MRe.aK.fi {w:World} {m:MRe} (h:m.aK w):∀ b∈m.aw,b < w.heap.size:=by
 induction h with
 | mk dF hk _ ih=>
  intro b ad;simp only [MRe.aw,List.mem_append] at ad
  rcases ad with ad | ad | ad
  ·exact dF.fi b ad
  ·exact hk.fi b ad
  ·obtain ⟨k,Ct,m5⟩:=MRe.tm ad;exact ih k Ct b m5
theorem gT.fi {w:World} {ka:Option Addr} {kc:Nat} {kids:List MRe} (h:gT w ka kc kids):∀ b∈MRe.dN kids,b < w.heap.size:=by
 intro b ad;obtain ⟨k,hk,m5⟩:=MRe.tm ad;exact (h.all k hk).fi b m5
def lV (lo:Nat) (l:List Nat):Prop:=∀ b∈l,lo≤b
theorem lV.nil (lo:Nat):lV lo []:=fun _ h=> by simp at h
theorem lV.append {lo:Nat} {a b:List Nat} (h:lV lo a) (k:lV lo b):lV lo (a ++ b):=fun x hx=> by
 rcases List.mem_append.1 hx with hx | hx
 ·exact h x hx
 ·exact k x hx
theorem lV.mono {lo CI:Nat} {l:List Nat} (h:lV lo l) (hl:CI≤lo):lV CI l:=fun x hx=> Nat.le_trans hl (h x hx)
theorem lV.zJ {lo n:Nat} {a:Option Nat} (h:∀ g,a=some g→lo≤g):lV lo (df n (a.map fun g=> ⟨g,0,none⟩)):=by
 intro b ad;unfold df at ad
 split at ad
 ·simp at ad
 ·cases a with
  | none=> simp at ad
  | some g=> simp at ad;subst ad;exact h _ rfl
theorem RA (a:Option Addr):df 0 a=[]:=by simp [df]
theorem OD:(Tryz.prog.info? 86).map (fun i=> (i.zero,i.size,i.bytes))=some (some (.agg #[H J 0,H J 0]),2,16):=by kernel_rfl
theorem Pf (op:Int) (sa:Option Addr) (ns sc:Nat) (ka:Option Addr) (nk kc:Nat) (mn mx mode n:Int) (neg:Bool):(#[H J op,M sa ns sc,M ka nk kc,H J mn,H J mx,H J mode,H J n,F neg].all (·.oneCell'))=true:=by simp [Value.oneCell']
theorem cr.empty (w:World) (e size:Nat):cr (w.alloc (.cells #[] e)) e size (some w.heap.size) 0 0 []:=
 ⟨by simp,#[],heap_alloc_new w _,Nat.le_refl _,by unfold maxLen;omega,by simp,by simp⟩
theorem ady (sa:Option Addr) (sc:Nat) (set:List (Int × Int)) (w:World) (h:eK w sa sc set) (ad:set.length≤1000000):
  Calls Tryz.prog 94 #[M sa set.length sc] w fun e w'=> ∃ jk ki,e=.returned (M jk set.length ki)∧eK w' jk ki set∧I [] w w'∧lV w.heap.size (df set.length jk):=by
 obtain ⟨gq,hi,dQ,fj,eI⟩:=info_parts OD;have gH:=C hi;have gI:=C dQ;have gJ:=C fj;have gK:=C eI;have cW:=C h;clear hi dQ fj eI h;have N8:∀ (w:World) (a:Option Addr) (n c y3 c':Nat),(binOp .eql 23 (M a n c) (M none y3 c')).run Tryz.prog w=.ok (F a.isNone) w:=fun w a n c y3 c'=> Lib.run_eql_slice_nil w _ _ a n c y3 c' Tryz.underlying23
 cases sa with
 | none=>
  have h0:set.length=0:=by have:=cW.o.Ei rfl;have:=cW.o.le;omega
  go_enter Tryz.func94,Tryz.ntmps94
  go_wp2;go_ret;refine ⟨none,0,by rw [h0];rfl,?_,I.refl _ _,by rw [h0,RA];exact lV.nil _⟩
  have:set=[]:=List.eq_nil_of_length_eq_zero h0
  subst this;exact eK.nil w
 | some a=>
  go_enter Tryz.func94,Tryz.ntmps94
  go_wp2_with (at_builtin;refine tF rfl (.tmp 5) (.tmp 6) 23 rfl 86 gq _ 2 16 Tryz.underlying23 gH.o gI.o gJ.o gK.o rfl (by decide) (some w.heap.size) 0 0 [] rfl (cr.empty w _ _) (some a) set.length sc (gU set) rfl (zL set) (cW.o.ah ((I.refl [] w).alloc _)).src (Ke set) (by omega) (by omega) ?hk)
  case hk=>
   intro dZ c' w' dd hk b8;have hU:=C dd;have b6:=C (show I [] w w' from ((I.refl [] w).alloc _).cn hk (by intro x hx;simp at hx;exact .inr (by omega)));have kR:=C (show ∀ g,dZ=some g→w.heap.size≤g by
    intro g hg
    rcases b8 with h | ⟨hv,h,h2⟩
    ·rw [hg] at h;cases h;exact Nat.le_refl _
    ·rw [hg] at h;cases h;have:w.heap.size≤(w.alloc (.cells #[] 86)).heap.size:=by simp
     omega)
   clear dd hk b8;go_wp2;go_ret;exact ⟨_,_,rfl,eK.we hU.o,b6.o,lV.zJ kR.o⟩
theorem Mk (l:List MRe) (k:Nat):MRe.al (l.take k)=(MRe.al l).take k:=by rw [MRe.kP,MRe.kP,List.map_take]
theorem adU (a b:List MRe):MRe.al (a ++ b)=MRe.al a ++ MRe.al b:=by rw [MRe.kP,MRe.kP,MRe.kP,List.map_append]
theorem lG {op sa sc set ka kc kids mn mx mode n neg} {U:Nat} (h:(MRe.node op sa sc set ka kc kids mn mx mode n neg).ab.bm≤U):kids.length≤U∧set.length≤U∧∀ k∈kids,k.ab.bm≤U:=by
 simp only [MRe.ab,Tree.bm] at h;refine ⟨?_,by omega,fun k hk=> ?_⟩
 ·have:=Tree.Ug (MRe.al kids);rw [MRe.ee] at this;omega
 ·have:k.ab∈MRe.al kids:=by rw [MRe.kP];exact List.mem_map_of_mem hk
  have:=Tree.Ff this
  omega
end Go.Proofs.YtjnlkjlbejelgaaGreat
