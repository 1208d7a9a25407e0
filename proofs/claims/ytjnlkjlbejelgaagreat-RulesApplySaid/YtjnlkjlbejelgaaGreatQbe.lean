/- Part 31 of the proof. No condition: every lemma says its own. -/
import Derived.Test.YtjnlkjlbejelgaaGreatQbd
import Derived.Test.YtjnlkjlbejelgaaGreatQaj
import Derived.Test.YtjnlkjlbejelgaaGreatQat
namespace Go.Proofs.YtjnlkjlbejelgaaGreat
open Go.RowKit
open Go.Value renaming int→H,slice→M,bool→F
open Go.IntKind renaming i64→J
set_option maxRecDepth 100000
set_option maxHeartbeats 16000000
theorem twinO_lt:∀ {l s:List Tree} {i:Nat},twinO s l=some i→i < l.length
 | [],_,_,h=> by simp [twinO] at h
 | x::r,s,i,h=> by
  rw [twinO] at h
  split at h
  ·cases h;simp
  ·cases hn:twinO (s ++ [x]) r with
   | none=> rw [hn] at h;simp at h
   | some k=>
    rw [hn] at h;simp at h
    have:=twinO_lt hn
    simp
    omega
theorem rapply3_any (m:MRe) (w:World) (k1:m.OK w) (f1:m.tree.WF) (hb:m.tree.bulk≤100000):
  Calls Tryz.prog 12 #[H J 3,m.val] w (RulePost w m.blocks (twinR m.tree)):=by
 obtain ⟨R,hR0⟩:∃ R,R=twinR m.tree:=⟨_,rfl⟩;rw [←hR0];obtain ⟨fo,hfo⟩:∃ fo,fo=twinO [] m.tree.kids:=⟨_,rfl⟩;have HKID:=fun (W:World) (h:Keeps [] w W)=> ralike_any m W (k1.keep h) hb;simp only [←hfo] at HKID;have HREP:=fun (ho:m.tree.op=3) i l=> repT_swap f1 (by rw [ho];decide) i (i + 1) l;have HSW:=fun (W:World) (h:Keeps [] w W) (i:Nat)=> replaced_any m i (i + 1) none 0 [] W (k1.keep h) (KidsIn.nil W);have HLT:=gi k1.block_lt;have hR1:R=if m.tree.op=3 then fo.map fun i=> swapT 3 m.tree.kids i (i + 1) [] else none:=by rw [hR0,hfo];rfl
 obtain ⟨op,sa,sc,set,ka,kc,kids,mn,mx,mode,n,neg⟩:=m;replace hR1:R=if op=3 then fo.map fun i=> swapT 3 (MRe.trees kids) i (i + 1) [] else none:=hR1;replace hfo:fo=twinO [] (MRe.trees kids):=hfo;obtain ⟨hbl,_,hbk⟩:=kids_bulk hb;obtain ⟨B,hBe⟩:∃ B,B=w.heap.size:=⟨_,rfl⟩;obtain ⟨X,hXe,hb8,hz,hzn,hsz,hkX⟩:=applyZ w (.node op sa sc set ka kc kids mn mx mode n neg) 26;simp only [MRe.row] at hXe;rw [←hBe] at hb8 hz hzn hsz;have HBE:=gi hBe;have HXE:=gi hXe;have HC:=gi hb8;have HZ:=gi hz;have HZN:=gi hzn;have HKX:=gi hkX;have HXS:=gi hsz;simp only [MRe.val] at HKID HSW ⊢;have hcap:=k1.nodes.cap;have hle:=k1.nodes.le;unfold maxLen at hcap
 by_cases ho:op=3
 ·rw [if_pos ho] at hR1;have HREP:=gi (HREP ho);have HSW:=gi HSW;subst ho
  cases fo with
  | none=>
   simp only [idxO] at HKID;have HKID:=gi HKID;have HR:=gi (show R=none from hR1);have hneg:(-1:Int) < 0:=by omega
   clear hR0 hR1 hfo hBe hXe hb8 hz hzn hsz hkX k1 f1 hb hbl hbk;obtain ⟨c0,c1,c2,c3,c4,c5,c6,c7⟩:=HC.o.cells0;go_enter Tryz.func12,Tryz.ntmps12
   go_upto_region 2 with fail
   rw [←HXE.o,←HBE.o];go_wp2_with fail
   refine Calls.mono (HKID.o _ HKX.o) ?_;rintro e w2 ⟨rfl,hk2⟩;have K3:=gi hk2;have e0:=hk2.c c0;clear hk2 c0 c1 c2 c3 c4 c5 c6 c7;obtain ⟨y0,y1,y2,y3,y4,y5,y6,y7,yf⟩:=zero_cells (K3.o.h HZN.o);obtain ⟨z0,z1,z2,z3,z4,z5,z6,z7,zf,HR2,HK2⟩:=nn HBE.o HKX.o K3.o HZ.o;go_wp2;refine rt HR2.o ?_;exact RulePost.of_none HR.o rfl HK2.o
  | some i=>
   have hi:i < kids.length:=by have:=twinO_lt hfo.symm;rwa [MRe.trees_length] at this
   have HRI:=gi (show R=some (swapT 3 (MRe.trees kids) i (i + 1) []) from hR1);have HBL:=gi hbl;simp only [idxO] at HKID;have HKID:=gi HKID;have hi0:(0:Int)≤(i:Int):=by omega
   have hnn:¬ (i:Int) < 0:=by omega
   have HI:=gi hi;have hw1:IntKind.i64.wrap ((i:Int) + 1)=(i:Int) + 1:=IntWalk.i64_in _ (by omega);clear hR0 hR1 hfo hBe hXe hb8 hz hzn hsz hkX k1 f1 hb hbl hbk hi;obtain ⟨c0,c1,c2,c3,c4,c5,c6,c7⟩:=HC.o.cells0;go_enter Tryz.func12,Tryz.ntmps12
   go_upto_region 2 with fail
   rw [←HXE.o,←HBE.o];go_wp2_with fail
   refine Calls.mono (HKID.o _ HKX.o) ?_;rintro e w2 ⟨rfl,hk2⟩;have K3:=gi hk2;obtain ⟨e0,e1,e2,e3,e4,e5,e6,e7⟩:=hk2.c8 c0 c1 c2 c3 c4 c5 c6 c7;have hs:=HSW.o _ (HKX.o.trans K3.o) i (by omega) (by show i + 1≤kids.length;have:=HI.o;omega) (by show 0 < kids.length;have:=HI.o;omega) (by show kids.length + 0≤1000000;have:=HBL.o;omega);rw [show ((i + 1:Nat):Int)=(i:Int) + 1 by omega,HREP.o] at hs;have HS:=gi hs;clear hk2 hs c0 c1 c2 c3 c4 c5 c6 c7;go_wp2_with fail
   refine Calls.mono HS.o ?_;rintro e w8 ⟨q,rfl,hqt,hqo,hk8,hqf⟩;have K8:=gi (K3.o.trans hk8);have QT:=gi hqt;have QO:=gi hqo;have QF:=gi hqf;obtain ⟨q0,hq0⟩:∃ q0,q0=q:=⟨_,rfl⟩;rw [←hq0] at QT QO QF;have Q0:=gi hq0;clear hqt hqo hk8 hqf hq0 e0 e1 e2 e3 e4 e5 e6 e7;obtain ⟨op9,sa9,sc9,set9,ka9,kc9,kids9,mn9,mx9,mode9,n9,neg9⟩:=q;simp only [MRe.val];obtain ⟨z0,z1,z2,z3,z4,z5,z6,z7,zf⟩:=zero_cells (K8.o.h HZ.o);have hfr:=swap_from (lo:=B + 2) QF.o (fun x hx=> by simp [MRe.blocksL] at hx) (Nat.le_trans HXS.o K3.o.size);rw [Q0.o] at hfr;obtain ⟨hR,hok,hke,hfr2⟩:=rule_store HBE.o HKX.o K8.o HZ.o (by rw [←Q0.o];exact QO.o) hfr HLT.o;have H1:=gi hR;have H2:=gi hok;have H3:=gi hke;have H4:=gi hfr2;clear hfr hR hok hke hfr2;go_wp2;refine rt H1.o ?_;exact RulePost.of_some (.node op9 sa9 sc9 set9 ka9 kc9 kids9 mn9 mx9 mode9 n9 neg9) (by rw [HRI.o,←Q0.o,QT.o];rfl) rfl H2.o H3.o H4.o
 ·
  have HR:=gi (show R=none by rw [hR1,if_neg ho]);have hob:(op==3)=false:=by simpa using ho
  have hoc:(op !=3)=true:=by simpa using ho
  obtain ⟨xi,hxi⟩:∃ xi,xi=idxO fo:=⟨_,rfl⟩;simp only [←hxi] at HKID;have HKID:=gi HKID;clear hxi hR0 hR1 hfo hBe hXe hb8 hz hzn hsz hkX k1 f1 hb hbl hbk HREP HSW ho;obtain ⟨c0,c1,c2,c3,c4,c5,c6,c7⟩:=HC.o.cells0;go_enter Tryz.func12,Tryz.ntmps12
  go_upto_region 2 with fail
  rw [←HXE.o,←HBE.o];go_wp2_with fail
  refine Calls.mono (HKID.o _ HKX.o) ?_;rintro e w2 ⟨rfl,hk2⟩;have K3:=gi hk2;have e0:=hk2.c c0;clear hk2 c0 c1 c2 c3 c4 c5 c6 c7;obtain ⟨y0,y1,y2,y3,y4,y5,y6,y7,yf⟩:=zero_cells (K3.o.h HZN.o);obtain ⟨z0,z1,z2,z3,z4,z5,z6,z7,zf,HR2,HK2⟩:=nn HBE.o HKX.o K3.o HZ.o;go_wp2;refine rt HR2.o ?_;exact RulePost.of_none HR.o rfl HK2.o
theorem drew_heap {w:World} {b:Nat} {o:Obj} (h:w.heap[b]? =some o):w.drew.heap[b]? =some o:=h
theorem gsB_endless {t:Tree} (h:t.WF):gsB t=endlessB t:=by
 cases t with
 | node op set kids mn mx mode n neg=>
  have hn:=h.node
  by_cases h4:op=4
  ·have h0:=(hn.hrep h4).1;have e1:endlessB (.node op set kids mn mx mode n neg)=(op==4 && (decide (mn≤1) && (mx== -1 && mode==0))):=rfl;have e2:gsB (.node op set kids mn mx mode n neg)=((op==4 && (mode==0 && (mn==0 && mx== -1))) || (op==4 && (mode==0 && (mn==1 && mx== -1)))):=rfl;rw [e1,e2,Bool.eq_iff_iff];simp only [Bool.or_eq_true,Bool.and_eq_true,beq_iff_eq,decide_eq_true_eq];omega
  ·have hb:(op==4)=false:=by simpa using h4
   simp [gsB,starB,greedyB,endlessB,Tree.op,hb]
theorem endlessB_parts {op set kids mn mx mode n neg} (h:endlessB (.node op set kids mn mx mode n neg)=true):op=4∧mn≤1:=by
 have e1:endlessB (.node op set kids mn mx mode n neg)=(op==4 && (decide (mn≤1) && (mx== -1 && mode==0))):=rfl;rw [e1] at h;simp only [Bool.and_eq_true,beq_iff_eq,decide_eq_true_eq] at h;exact ⟨h.1,h.2.1⟩
theorem rapply8_any (m:MRe) (w:World) (k1:m.OK w) (f1:m.tree.WF):
  Calls Tryz.prog 12 #[H J 8,m.val] w (RulePost w m.blocks (nestR m.tree)):=by
 obtain ⟨R,hR0⟩:∃ R,R=nestR m.tree:=⟨_,rfl⟩;rw [←hR0];have hgs:=gsB_endless f1;have HE:=fun W=> rendless_any m W;have hps:=fun (h:endlessB m.tree=true)=> h;obtain ⟨s1,hs1⟩:∃ s1,s1=endlessB m.tree:=⟨_,rfl⟩;rw [←hs1] at hgs;simp only [←hs1] at HE;obtain ⟨op,sa,sc,set,ka,kc,kids,mn,mx,mode,n,neg⟩:=m;replace hs1:s1=endlessB (.node op set (MRe.trees kids) mn mx mode n neg):=hs1;replace hgs:gsB (.node op set (MRe.trees kids) mn mx mode n neg)=s1:=hgs;have hno:=wf_node f1;obtain ⟨B,hBe⟩:∃ B,B=w.heap.size:=⟨_,rfl⟩;obtain ⟨X,hXe,hb8,hz,hzn,hsz,hkX⟩:=applyZ w (.node op sa sc set ka kc kids mn mx mode n neg) 26;simp only [MRe.row] at hXe;rw [←hBe] at hb8 hz hzn hsz;have HBE:=gi hBe;have HXE:=gi hXe;have HC:=gi hb8;have HZ:=gi hz;have HZN:=gi hzn;have HKX:=gi hkX;have HXS:=gi hsz;have HLT:=gi k1.block_lt;clear hBe hXe hb8 hz hzn hkX hsz hps;replace hR0:R=if gsB (.node op set (MRe.trees kids) mn mx mode n neg)=true∧gsB ((MRe.trees kids).getD 0 .nil)=true∧nullP (((MRe.trees kids).getD 0 .nil).kids.getD 0 .nil)=false then some (.node 4 [] ((MRe.trees kids).getD 0 .nil).kids (min mn ((MRe.trees kids).getD 0 .nil).mn) (-1) 0 0 false) else none:=hR0;rw [hgs] at hR0;simp only [MRe.val] at HE ⊢;have HE:=gi HE
 cases s1 with
 | false=>
  have HR:=gi (show R=none from hR0.trans (if_neg (fun h=> by cases h.1)));clear hR0 hs1 hgs k1 f1 hno;obtain ⟨c0,c1,c2,c3,c4,c5,c6,c7⟩:=HC.o.cells0;go_enter Tryz.func12,Tryz.ntmps12
  go_upto_region 2 with fail
  rw [←HXE.o,←HBE.o];go_wp2_with fail
  refine Calls.mono (HE.o _) ?_;rintro e w2 ⟨rfl,hk2⟩;have K2:=gi hk2;clear hk2 c0 c1 c2 c3 c4 c5 c6 c7;obtain ⟨y0,y1,y2,y3,y4,y5,y6,y7,yf⟩:=zero_cells (K2.o.h HZN.o);obtain ⟨z0,z1,z2,z3,z4,z5,z6,z7,zf,HR2,HK2⟩:=nn HBE.o HKX.o K2.o HZ.o;go_wp2;refine rt HR2.o ?_;exact RulePost.of_none HR.o rfl HK2.o
 | true=>
  obtain ⟨rfl,hmn1⟩:=endlessB_parts hs1.symm;have hmn0:=(hno.hrep rfl).1;have hlen0:kids.length=1:=hno.hone (by simp);have hln0:0 < kids.length:=by omega
  have hln:(0:Int) < (kids.length:Int):=by omega
  obtain ⟨b1,o1,k0,rfl,hk0m,hk00,hk0a,hk0o⟩:=k1.kids.head hln0;obtain ⟨r,hr⟩:=trees_head hk00;have hg:(MRe.trees kids).getD 0 .nil=k0.tree:=by rw [hr];rfl
  rw [hg] at hR0;have fk:=wf_kid f1 hk0m;rw [gsB_endless fk] at hR0;have HE2:=fun W=> rendless_any k0 W;have HKB:=gi (show ∀ b∈k0.blocks,b∈(MRe.node 4 sa sc set (some ⟨b1,o1,none⟩) kc kids mn mx mode n neg).blocks from blocks_kid hk0m);have HB1:=gi (show b1 < w.heap.size from HLT.o b1 (by simp only [MRe.blocks,List.mem_append];exact .inr (.inl (by simp [blockIf,hlen0]))));obtain ⟨s2,hs2⟩:∃ s2,s2=endlessB k0.tree:=⟨_,rfl⟩;rw [←hs2] at hR0;simp only [←hs2] at HE2;obtain ⟨op1,sa1,sc1,set1,ka1,kc1,kids1,mn1,mx1,mode1,n1,neg1⟩:=k0;replace hs2:s2=endlessB (.node op1 set1 (MRe.trees kids1) mn1 mx1 mode1 n1 neg1):=hs2;replace hR0:R=if true=true∧s2=true∧nullP ((MRe.trees kids1).getD 0 .nil)=false then some (.node 4 [] (MRe.trees kids1) (min mn mn1) (-1) 0 0 false) else none:=hR0;have hno1:=wf_node fk;have g:=hk0a.node;obtain ⟨e0,e1,e2,e3,e4,e5,e6,e7⟩:=id g;obtain ⟨d0,d1,d2,d3,d4,d5,d6,d7⟩:=HKX.o.c8 e0 e1 e2 e3 e4 e5 e6 e7;simp only [MRe.val] at HE2;have HE2:=gi HE2;clear g e0 e1 e2 e3 e4 e5 e6 e7 hr hg hk00 hk0a hk0m hs1 hgs hno f1 k1;obtain ⟨c0,c1,c2,c3,c4,c5,c6,c7⟩:=HC.o.cells0
  cases s2 with
  | false=>
   have HR:=gi (show R=none from hR0.trans (if_neg (fun h=> by cases h.2.1)));clear hR0 hs2 hno1 fk hk0o hlen0 hmn1 hmn0;go_enter Tryz.func12,Tryz.ntmps12
   go_upto_region 2 with fail
   rw [←HXE.o,←HBE.o];go_wp2_with fail
   refine Calls.mono (HE.o _) ?_;rintro e w2 ⟨rfl,hk2⟩;have K2:=gi hk2;have u2:=hk2.c c2;obtain ⟨v0,v1,v2,v3,v4,v5,v6,v7⟩:=K2.o.c8 d0 d1 d2 d3 d4 d5 d6 d7;clear hk2 c0 c1 c2 c3 c4 c5 c6 c7 d0 d1 d2 d3 d4 d5 d6 d7;go_wp2_with fail
   refine Calls.mono (HE2.o _) ?_;rintro e w3 ⟨rfl,hk3⟩;have K3:=gi (K2.o.trans hk3);clear hk3 u2 v0 v1 v2 v3 v4 v5 v6 v7;obtain ⟨y0,y1,y2,y3,y4,y5,y6,y7,yf⟩:=zero_cells (K3.o.h HZN.o);obtain ⟨z0,z1,z2,z3,z4,z5,z6,z7,zf,HR2,HK2⟩:=nn HBE.o HKX.o K3.o HZ.o;go_wp2;refine rt HR2.o ?_;exact RulePost.of_none HR.o rfl HK2.o
  | true=>
   obtain ⟨rfl,hmn11⟩:=endlessB_parts hs2.symm;have hmn10:=(hno1.hrep rfl).1;have hlen1:kids1.length=1:=hno1.hone (by simp);have hln10:0 < kids1.length:=by omega
   have hln1:(0:Int) < (kids1.length:Int):=by omega
   have HKI:=gi hk0o.kids;obtain ⟨b2,o2,kk,rfl,hkkm,hkk0,hkka,hkko⟩:=hk0o.kids.head hln10;obtain ⟨r,hr⟩:=trees_head hkk0;have hg:(MRe.trees kids1).getD 0 .nil=kk.tree:=by rw [hr];rfl
   rw [hg] at hR0;have HNL:=fun W (h:Keeps [] w W)=> rnull_any kk W (hkko.keep h) (wf_kid fk hkkm).q;obtain ⟨q,hq⟩:∃ q,q=nullP kk.tree:=⟨_,rfl⟩;rw [←hq] at hR0;simp only [←hq] at HNL;obtain ⟨op2,sa2,sc2,set2,ka2,kc2,kids2,mn2,mx2,mode2,n2,neg2⟩:=kk;have g:=hkka.node;obtain ⟨e0,e1,e2,e3,e4,e5,e6,e7⟩:=id g;obtain ⟨f0,f1,f2,f3,f4,f5,f6,f7⟩:=HKX.o.c8 e0 e1 e2 e3 e4 e5 e6 e7;simp only [MRe.val] at HNL;have HNL:=gi HNL;have HR0:=gi hR0;obtain ⟨p,hp⟩:∃ p,p=min mn mn1:=⟨_,rfl⟩;have hmul:mn * mn1=p:=by
    rw [hp];obtain rfl | rfl:mn=0∨mn=1:=by omega
    ·omega
    ·omega
   have hp0:0≤p∧p≤1:=by omega
   have hw1:IntKind.i64.wrap (mn * mn1)=p:=by rw [hmul];exact IntWalk.i64_in _ (by omega)
   have HP:=gi hp;clear g e0 e1 e2 e3 e4 e5 e6 e7 hr hg hkk0 hkka hkkm hkko hs2 hno1 fk hk0o hlen0 hmn1 hmn0 hmn11 hmn10 hlen1 hmul hp0 hp hR0 hq;go_enter Tryz.func12,Tryz.ntmps12
   go_upto_region 2 with fail
   rw [←HXE.o,←HBE.o];go_wp2_with fail
   refine Calls.mono (HE.o _) ?_;rintro e w2 ⟨rfl,hk2⟩;have K2:=gi hk2;have u2:=hk2.c c2;have u3:=hk2.c c3;obtain ⟨v0,v1,v2,v3,v4,v5,v6,v7⟩:=K2.o.c8 d0 d1 d2 d3 d4 d5 d6 d7;obtain ⟨g0,g1,g2,g3,g4,g5,g6,g7⟩:=K2.o.c8 f0 f1 f2 f3 f4 f5 f6 f7;clear hk2 c0 c1 c2 c3 c4 c5 c6 c7 d0 d1 d2 d3 d4 d5 d6 d7 f0 f1 f2 f3 f4 f5 f6 f7;go_wp2_with fail
   refine Calls.mono (HE2.o _) ?_;rintro e w3 ⟨rfl,hk3⟩;have K3:=gi (K2.o.trans hk3);have c2:=hk3.c u2;have c3:=hk3.c u3;have d2:=hk3.c v2;have d3:=hk3.c v3;obtain ⟨f0,f1,f2,f3,f4,f5,f6,f7⟩:=hk3.c8 g0 g1 g2 g3 g4 g5 g6 g7;clear hk3 u2 u3 v0 v1 v2 v3 v4 v5 v6 v7 g0 g1 g2 g3 g4 g5 g6 g7;go_wp2_with fail
   refine Calls.mono (HNL.o _ (HKX.o.trans K3.o)) ?_;rintro e w4 ⟨rfl,hk4⟩;have K4:=gi (K3.o.trans hk4);have u2:=hk4.c c2;have u3:=hk4.c c3;have v2:=hk4.c d2;have v3:=hk4.c d3;clear hk4 c2 c3 d2 d3 f0 f1 f2 f3 f4 f5 f6 f7
   cases q with
   | true=>
    have HR:=gi (show R=none from HR0.o.trans (if_neg (fun h=> by cases h.2.2)));clear u2 u3 v2 v3;obtain ⟨y0,y1,y2,y3,y4,y5,y6,y7,yf⟩:=zero_cells (K4.o.h HZN.o);obtain ⟨z0,z1,z2,z3,z4,z5,z6,z7,zf,HR2,HK2⟩:=nn HBE.o HKX.o K4.o HZ.o;go_wp2;refine rt HR2.o ?_;exact RulePost.of_none HR.o rfl HK2.o
   | false=>
    have HR:=gi (show R=some (.node 4 [] (MRe.trees kids1) p (-1) 0 0 false) from (HR0.o.trans (if_pos (by simp))).trans (by rw [HP.o]));obtain ⟨z0,z1,z2,z3,z4,z5,z6,z7,zf⟩:=zero_cells (K4.o.h HZ.o);obtain ⟨hR,hok,hke,hfr2⟩:=rule_store (W:=w4) (op:=4) (sa:=none) (sc:=0) (set:=[]) (ka:=some ⟨b2,o2,none⟩) (kc:=kc1) (kids:=kids1) (mn:=p) (mx:= -1) (mode:=0) (n:=0) (neg:=false) (src:=(MRe.node 4 sa sc set (some ⟨b1,o1,none⟩) kc kids mn mx mode n neg).blocks) HBE.o HKX.o K4.o HZ.o (.of (SpansIn.nil _) (HKI.o.keep (HKX.o.trans K4.o))) (From.of_mem (fun x hx=> HKB.o x (by
     simp only [MRe.blocks,List.mem_append] at hx ⊢
     rcases hx with h | h
     ·simp [blockIf] at h
     ·exact .inr h))) HLT.o
    have H1:=gi (drew_heap hR);have H2:=gi (hok.keep ((Keeps.refl [] _).drew));have H3:=gi hke.drew;have H4:=gi hfr2;have KS:=gi (set8_keeps w4 (B + 1) (H J 4) (M none 0 0) (M (some ⟨b2,o2,none⟩) kids1.length kc1) (H J p) (H J (-1)) (H J 0) (H J 0) (F false));clear hR hok hke hfr2;go_wp2_with fail
    refine rg (S:=fun w'=> w'.cell? ⟨B,2,none⟩=some (M (some ⟨b1,o1,none⟩) kids.length kc)∧w'.cell? ⟨B,3,none⟩=some (H J mn)∧w'.cell? ⟨b1,o1 + 2,none⟩=some (M (some ⟨b2,o2,none⟩) kids1.length kc1)∧w'.cell? ⟨b1,o1 + 3,none⟩=some (H J mn1)) (fun _ k=> ⟨k.c u2,k.c u3,k.c v2,k.c v3⟩) fun kz hHeld=> ?_;refine tk 0 ?_;refine tk 1 ?_;refine tk 2 ?_;refine tk 3 ?_;refine tk 4 ?_;refine tk 5 ?_;refine tk 6 ?_;refine tk 7 ?_;refine tk 8 ?_;refine tk 9 ?_;refine tk 10 ?_;refine tk 11 ?_;refine tk 12 ?_;refine tk 13 ?_;refine j6 14 fun K hK=> ?_;go_simp;have hne:=HB1.o;have hne2:=HBE.o;refine hK.out _ _ (⟨KS.o.drew.c u2,KS.o.drew.c u3,KS.o.drew.cell v2 (by simp;omega),KS.o.drew.cell v3 (by simp;omega)⟩) (fun hHeld=> ?_);clear hK K;try go_frame
    refine tk 15 ?_;refine wd ?_;clear hne hne2 u2 u3 v2 v3 z0 z1 z2 z3 z4 z5 z6 z7 zf hHeld;go_wp2;refine rt H1.o ?_;exact RulePost.of_some (.node 4 none 0 [] (some ⟨b2,o2,none⟩) kc1 kids1 p (-1) 0 0 false) HR.o rfl H2.o H3.o H4.o
end Go.Proofs.YtjnlkjlbejelgaaGreat
