/- Part 33 of the proof. No condition: every lemma says its own. -/
import Derived.Test.YtjnlkjlbejelgaaGreatQbe
import Derived.Test.YtjnlkjlbejelgaaGreatQbf
import Derived.Test.YtjnlkjlbejelgaaGreatQbc
import Derived.Test.YtjnlkjlbejelgaaGreatQap
namespace Go.Proofs.YtjnlkjlbejelgaaGreat
open Go.RowKit
open Go.Value renaming int→H,slice→M,bool→F
open Go.IntKind renaming i64→J
set_option maxRecDepth 100000
set_option maxHeartbeats 16000000
theorem rapply13_any (m:MRe) (w:World) (k1:m.OK w) (f1:m.tree.WF):
  Calls Tryz.prog 12 #[H J 13,m.val] w (RulePost w m.blocks (peelR m.tree)):=by
 obtain ⟨R,hR0⟩:∃ R,R=peelR m.tree:=⟨_,rfl⟩;rw [←hR0];obtain ⟨op,sa,sc,set,ka,kc,kids,mn,mx,mode,n,neg⟩:=m;have hno:=wf_node f1;obtain ⟨B,hBe⟩:∃ B,B=w.heap.size:=⟨_,rfl⟩;obtain ⟨X,hXe,hb8,hz,hzn,hsz,hkX⟩:=applyZ w (.node op sa sc set ka kc kids mn mx mode n neg) 26;simp only [MRe.row] at hXe;rw [←hBe] at hb8 hz hzn hsz;have hBX:X.heap[B]? =some (.cells #[H J op,M sa set.length sc,M ka kids.length kc,H J mn,H J mx,H J mode,H J n,F neg] 26 (0,0)):=by rw [hXe,hBe];exact (Keeps.a2 _ _ _).heap (heap_alloc_new w _) (by simp)
 have HBX:=gi hBX;have HBE:=gi hBe;have HXE:=gi hXe;have HC:=gi hb8;have HZ:=gi hz;have HZN:=gi hzn;have HKX:=gi hkX;have HXS:=gi hsz;have HLT:=gi k1.block_lt;have HK0:=gi (Keeps.refl [] X);clear hBe hXe hb8 hz hzn hkX hsz hBX;replace hR0:R=peelR (.node op set (MRe.trees kids) mn mx mode n neg):=hR0;simp only [MRe.val]
 by_cases h7:op=7
 ·subst h7
  cases neg with
  | true=>
   have HR:=gi (hR0.trans (peelR_none (op:=7) (set:=set) (kids:=MRe.trees kids) (mn:=mn) (mx:=mx) (mode:=mode) (n:=n) (neg:=true) (fun _ h=> by cases h)));clear hR0 k1 f1 hno;obtain ⟨c0,c1,c2,c3,c4,c5,c6,c7⟩:=HC.o.cells0;go_enter Tryz.func12,Tryz.ntmps12
   go_upto_region 2 with fail
   rw [←HXE.o,←HBE.o];obtain ⟨y0,y1,y2,y3,y4,y5,y6,y7,yf⟩:=zero_cells (HK0.o.h HZN.o);obtain ⟨z0,z1,z2,z3,z4,z5,z6,z7,zf,HR2,HK2⟩:=nn HBE.o HKX.o HK0.o HZ.o;go_wp2;refine rt HR2.o ?_;exact RulePost.of_none HR.o rfl HK2.o
  | false=>
   have hlen0:kids.length=1:=hno.hone (by simp);have hln0:0 < kids.length:=by omega
   have hln:(0:Int) < (kids.length:Int):=by omega
   have HE1:=gi (hno.hnset (by omega));have HE2:=gi (hno.hnrep (by omega));have HE3:=gi (hno.hnnum (by omega));have HSP:=gi k1.spans;have HSB:=gi (show ∀ q∈blockIf set.length sa,q∈(MRe.node 7 sa sc set ka kc kids mn mx mode n false).blocks from fun q hq=> by simp only [MRe.blocks,List.mem_append];exact .inl hq);obtain ⟨b1,o1,k0,rfl,hk0m,hk00,hk0a,hk0o⟩:=k1.kids.head hln0;obtain ⟨r,hr⟩:=trees_head hk00;have hg:(MRe.trees kids).getD 0 .nil=k0.tree:=by rw [hr];rfl
   have fk:=wf_kid f1 hk0m;have hb0:∀ q∈k0.blocks,q∈(MRe.node 7 sa sc set (some ⟨b1,o1,none⟩) kc kids mn mx mode n false).blocks:=blocks_kid hk0m;have hPR:R=if k0.tree.op=2∧plainP (k0.tree.kids.getD (k0.tree.kids.length - 1) .nil)=true∧nullP (k0.tree.kids.getD (k0.tree.kids.length - 1) .nil)=true then some (mkT 7 [naryT 2 (k0.tree.kids.take (k0.tree.kids.length - 1))]) else none:=by
    rw [hR0,peelR,hg];simp only [true_and]
   obtain ⟨op1,sa1,sc1,set1,ka1,kc1,kids1,mn1,mx1,mode1,n1,neg1⟩:=k0;have g:=hk0a.node;obtain ⟨e0,e1,e2,e3,e4,e5,e6,e7⟩:=id g;obtain ⟨d0,d1,d2,d3,d4,d5,d6,d7⟩:=HKX.o.c8 e0 e1 e2 e3 e4 e5 e6 e7;clear g e0 e1 e2 e3 e4 e5 e6 e7 hR0;have hX2:(MRe.tree (.node op1 sa1 sc1 set1 ka1 kc1 kids1 mn1 mx1 mode1 n1 neg1)).kids=MRe.trees kids1:=rfl;have hX3:(MRe.tree (.node op1 sa1 sc1 set1 ka1 kc1 kids1 mn1 mx1 mode1 n1 neg1)).op=op1:=rfl;rw [hX2,hX3] at hPR;obtain ⟨c0,c1,c2,c3,c4,c5,c6,c7⟩:=HC.o.cells0
   by_cases h2:op1=2
   ·subst h2;have hl2:2≤kids1.length:=(wf_node fk).htwo (.inl rfl);obtain ⟨l,hl⟩:∃ l,kids1.length=l + 1:=⟨kids1.length - 1,by omega⟩;obtain ⟨b2,o2,rfl,hbb2,hx2⟩:=hk0o.nodes.kid (by omega);have ha2:=hx2 l (by omega);have hao:=hk0o.kid (List.getElem_mem (n:=l) (by omega));have hcap:=hk0o.nodes.cap;have hle:=hk0o.nodes.le;unfold maxLen at hcap;have htl':(MRe.trees kids1).length - 1=l:=by rw [MRe.trees_length];omega
    have hgk:(MRe.trees kids1).getD ((MRe.trees kids1).length - 1) .nil=(kids1[l]'(by omega)).tree:=by
     rw [htl',List.getD_eq_getElem?_getD,List.getElem?_eq_getElem (by rw [MRe.trees_length];omega),Option.getD_some,trees_getElem]
    have htk:(MRe.trees kids1).take ((MRe.trees kids1).length - 1)=MRe.trees (kids1.take l):=by
     rw [htl',MRe.trees_eq,MRe.trees_eq,List.map_take]
    rw [hgk,htk] at hPR;simp only [true_and] at hPR;have htl:(kids1.take l).length=l:=by rw [List.length_take];omega
    have hki:KidsIn w (some ⟨b2,o2,none⟩) kc1 (kids1.take l):=⟨hk0o.nodes.take l,fun x hx=> hk0o.kid (List.mem_of_mem_take hx)⟩;have HN:=fun (W:World) (h:Keeps [] w W)=> one_any (some ⟨b2,o2,none⟩) kc1 (kids1.take l) W (hki.keep h);rw [htl] at HN;have HNA:=gi HN;have hblk:∀ q∈blockIf l (some ⟨b2,o2,none⟩) ++ MRe.blocksL (kids1.take l),q∈(MRe.node 7 sa sc set (some ⟨b1,o1,none⟩) kc kids mn mx mode n false).blocks:=fun q hq=> hb0 q (by
     simp only [MRe.blocks,List.mem_append]
     rcases List.mem_append.1 hq with h | h
     ·refine .inr (.inl ?_);unfold blockIf at h ⊢;rw [if_neg (by omega)]
      split at h
      ·simp at h
      ·simpa using h
     ·obtain ⟨y,hy,hqy⟩:=MRe.blocksL_mem h;exact .inr (.inr (MRe.mem_blocksL (List.mem_of_mem_take hy) hqy)))
    have HBK:=gi hblk;have hsl:∀ W:World,(Instr.sliceAt 24 (M (some ⟨b2,o2,none⟩) kids1.length kc1) none (some (H J l)) none).run Tryz.prog W=.ok (M (some ⟨b2,o2,none⟩) l kc1) W:=by
     intro W;have q1:(l:Int)≤kc1:=by omega
     simp [go_sem,q1]
    have fl:=wf_kid fk (List.getElem_mem (n:=l) (by omega));have HPL:=fun (W:World) (h:Keeps [] w W)=> rplain_any (kids1[l]'(by omega)) W (hao.keep h) fl.q;have HNL:=fun (W:World) (h:Keeps [] w W)=> rnull_any (kids1[l]'(by omega)) W (hao.keep h) fl.q;obtain ⟨p,hp⟩:∃ p,p=plainP (kids1[l]'(by omega)).tree:=⟨_,rfl⟩;obtain ⟨q,hq⟩:∃ q,q=nullP (kids1[l]'(by omega)).tree:=⟨_,rfl⟩;rw [←hp,←hq] at hPR;simp only [←hp] at HPL;simp only [←hq] at HNL;obtain ⟨k2,hk2⟩:∃ k2,k2=(kids1[l]'(by omega)):=⟨_,rfl⟩;rw [←hk2] at ha2;simp only [←hk2] at HPL HNL;obtain ⟨op2,sa2,sc2,set2,ka2,kc2,kids2,mn2,mx2,mode2,n2,neg2⟩:=k2;have g:=ha2.node;obtain ⟨e0,e1,e2,e3,e4,e5,e6,e7⟩:=id g;obtain ⟨y0,y1,y2,y3,y4,y5,y6,y7⟩:=HKX.o.c8 e0 e1 e2 e3 e4 e5 e6 e7;clear g e0 e1 e2 e3 e4 e5 e6 e7;simp only [MRe.val] at HPL HNL;have HPL:=gi HPL;have HNL:=gi HNL;have hw1:IntKind.i64.wrap ((kids1.length:Int) - 1)=(l:Int):=by rw [IntWalk.i64_in _ (by omega)];omega
    have hlb:(0:Int)≤(l:Int):=by omega
    have hlc:(l:Int) < (kids1.length:Int):=by omega
    have hlt':l < kids1.length:=by omega
    have HPR:=gi hPR;clear hPR hX2 hX3 hg hr hk00 hk0m hk0a hk0o fk fl f1 k1 hx2 ha2 hao hl hki htl hgk htk htl' hp hq hk2 hblk hb0 HN hl2 hno hlen0;go_enter Tryz.func12,Tryz.ntmps12
    go_upto_region 2 with fail
    rw [←HXE.o,←HBE.o];go_upto_region 38 with fail
    obtain ⟨X1,hX1⟩:∃ X1,X1=X.alloc (.cells #[H J op2,M sa2 set2.length sc2,M ka2 kids2.length kc2,H J mn2,H J mx2,H J mode2,H J n2,F neg2] 26):=⟨_,rfl⟩;have hk1:Keeps [] X X1:=by rw [hX1];exact Keeps.a1 _ _
    have hL:X1.heap[X.heap.size]? =some (.cells #[H J op2,M sa2 set2.length sc2,M ka2 kids2.length kc2,H J mn2,H J mx2,H J mode2,H J n2,F neg2] 26 (0,0)):=by rw [hX1];exact heap_alloc_new X _
    rw [←hX1];have K1:=gi hk1;obtain ⟨L,hLe⟩:∃ L,L=X.heap.size:=⟨_,rfl⟩;rw [←hLe] at hL ⊢;clear y0 y1 y2 y3 y4 y5 y6 y7;obtain ⟨y0,y1,y2,y3,y4,y5,y6,y7⟩:=row_cells hL;clear hX1 hk1 hLe hL c0 c1 c2 c3 c4 c5 c6 c7 d0 d1 d2 d3 d4 d5 d6 d7;go_wp2_with fail
    refine Calls.mono (HPL.o _ (HKX.o.trans K1.o)) ?_;rintro e w3 ⟨rfl,hk3⟩;have K3:=gi (K1.o.trans hk3);obtain ⟨u0,u1,u2,u3,u4,u5,u6,u7⟩:=hk3.c8 y0 y1 y2 y3 y4 y5 y6 y7;clear hk3 y0 y1 y2 y3 y4 y5 y6 y7 HPL
    cases p with
    | false=>
     have HR:=gi (show R=none by rw [HPR.o,if_neg (fun h=> by cases h.1)]);clear u0 u1 u2 u3 u4 u5 u6 u7;obtain ⟨y0,y1,y2,y3,y4,y5,y6,y7,yf⟩:=zero_cells (K3.o.h HZN.o);obtain ⟨z0,z1,z2,z3,z4,z5,z6,z7,zf,HR2,HK2⟩:=nn HBE.o HKX.o K3.o HZ.o;go_wp2;refine rt HR2.o ?_;exact RulePost.of_none HR.o rfl HK2.o
    | true=>
     go_wp2_with fail
     refine Calls.mono (HNL.o _ (HKX.o.trans K3.o)) ?_;rintro e w4 ⟨rfl,hk4⟩;have K4:=gi (K3.o.trans hk4);clear hk4 u0 u1 u2 u3 u4 u5 u6 u7 HNL
     cases q with
     | false=>
      have HR:=gi (show R=none by rw [HPR.o,if_neg (fun h=> by cases h.2)]);obtain ⟨y0,y1,y2,y3,y4,y5,y6,y7,yf⟩:=zero_cells (K4.o.h HZN.o);obtain ⟨z0,z1,z2,z3,z4,z5,z6,z7,zf,HR2,HK2⟩:=nn HBE.o HKX.o K4.o HZ.o;go_wp2;refine rt HR2.o ?_;exact RulePost.of_none HR.o rfl HK2.o
     | true=>
      have HR:=gi (show R=some (mkT 7 [naryT 2 (MRe.trees (kids1.take l))]) by rw [HPR.o];simp);go_wp2_with fail
      refine Calls.mono (HNA.o _ (HKX.o.trans K4.o)) ?_;rintro e w5 ⟨s,rfl,hst,hso,hk5,hsb⟩;have K5:=gi (K4.o.trans hk5);obtain ⟨s0,hs0⟩:∃ s0,s0=s:=⟨_,rfl⟩;rw [←hs0] at hst hso hsb;have S0:=gi hs0;have ST:=gi hst;have SO:=gi hso;have SB:=gi hsb;clear hk5 hs0 hst hso hsb;obtain ⟨op9,sa9,sc9,set9,ka9,kc9,kids9,mn9,mx9,mode9,n9,neg9⟩:=s;simp only [MRe.val];have hB5:=(Keeps.a1 w5 (.cells #[H J op9,M sa9 set9.length sc9,M ka9 kids9.length kc9,H J mn9,H J mx9,H J mode9,H J n9,F neg9] 26)).heap (K5.o.h HBX.o) (by simp);have hbf:=row_frozen hB5;obtain ⟨x0,x1,x2,x3,x4,x5,x6,x7⟩:=row_cells hB5;have HB5:=gi hB5;have HRN:=gi (heap_alloc_new w5 (.cells #[H J op9,M sa9 set9.length sc9,M ka9 kids9.length kc9,H J mn9,H J mx9,H J mode9,H J n9,F neg9] 26));clear hB5;go_upto_region 40 with fail
      obtain ⟨V,hVe⟩:∃ V,V=(w5.alloc (.cells #[H J op9,M sa9 set9.length sc9,M ka9 kids9.length kc9,H J mn9,H J mx9,H J mode9,H J n9,F neg9] 26)).setCell ⟨B,2,none⟩ (M (some ⟨w5.heap.size,0,none⟩) 1 1):=⟨_,rfl⟩;rw [←hVe];have hkV:Keeps [B] (w5.alloc (.cells #[H J op9,M sa9 set9.length sc9,M ka9 kids9.length kc9,H J mn9,H J mx9,H J mode9,H J n9,F neg9] 26)) V:=by rw [hVe];exact (Keeps.refl [B] _).setCell (p:=⟨B,2,none⟩) (.inl (by simp)) _
      have hVB:V.heap[B]? =some (.cells #[H J 7,M sa set.length sc,M (some ⟨w5.heap.size,0,none⟩) 1 1,H J mn,H J mx,H J mode,H J n,F false] 26 (0,0)):=by rw [hVe];exact heap_setCell_same _ B 2 _ _ _ HB5.o
      obtain ⟨v0,v1,v2,v3,v4,v5,v6,v7⟩:=row_cells hVB;have hBw:w.heap.size≤B:=by rw [HBE.o];exact Nat.le_refl _
      have hGB:B + 2≤w5.heap.size:=Nat.le_trans HXS.o K5.o.size;have hkA:=(K5.o.trans (Keeps.a1 w5 (.cells #[H J op9,M sa9 set9.length sc9,M ka9 kids9.length kc9,H J mn9,H J mx9,H J mode9,H J n9,F neg9] 26)));have KWV:=gi (show Keeps [] w V from (HKX.o.trans hkA).after hkV (by intro x hx;simp at hx;subst hx;exact .inr hBw));have hzV:V.heap[B + 1]? =some (.cells #[H J 0,M none 0 0,M none 0 0,H J 0,H J 0,H J 0,H J 0,F false] 26 (0,0)):=hkV.heap (hkA.h HZ.o) (by simp);obtain ⟨z0,z1,z2,z3,z4,z5,z6,z7,zf⟩:=zero_cells hzV;have hGV:V.heap[w5.heap.size]? =some (.cells #[H J op9,M sa9 set9.length sc9,M ka9 kids9.length kc9,H J mn9,H J mx9,H J mode9,H J n9,F neg9] 26 (0,0)):=hkV.heap HRN.o (by simp;omega);have hlt:=HLT.o;have hsV:s0.OK V:=(SO.o.keep (Keeps.a1 w5 _)).keepS hkV fun b hb=> by have:=hlt b (HBK.o b (SB.o b hb));have:=HBE.o;simp;omega
      have hoV:MRe.OK V (.node 7 sa sc set (some ⟨w5.heap.size,0,none⟩) 1 [s0] mn mx mode n false):=.of (HSP.o.keep KWV.o) ⟨NodesIn.of_block (kids:=[s0]) hGV (by rw [S0.o];simp [flatK,MRe.row]) (by simp [maxLen]),fun x hx=> by
       simp only [List.mem_cons,List.not_mem_nil,or_false] at hx;subst hx;exact hsV⟩
      have hfrV:From (B + 2) (MRe.node 7 sa sc set (some ⟨b1,o1,none⟩) kc kids mn mx mode n false).blocks (MRe.node 7 sa sc set (some ⟨w5.heap.size,0,none⟩) 1 [s0] mn mx mode n false).blocks:=fun q hq=> by
       simp only [MRe.blocks,MRe.blocksL,List.mem_append,List.not_mem_nil,or_false] at hq
       rcases hq with h | h | h
       ·exact .inl (HSB.o q (by simpa [MRe.blocks] using h))
       ·simp [blockIf] at h;subst h;exact .inr hGB
       ·exact .inl (HBK.o q (SB.o q h))
      obtain ⟨hR,hok,hke,hfr2⟩:=rule_store HBE.o KWV.o (Keeps.refl [] V) hzV hoV hfrV HLT.o;have H1:=gi hR;have H2:=gi hok;have H3:=gi hke;have H4:=gi hfr2;clear hR hok hke hfr2 hVe hkV hVB hzV hoV hfrV hbf x0 x1 x2 x3 x4 x5 x6 x7 hsV hGV hlt hkA hGB hBw;go_wp2;refine rt H1.o ?_;exact RulePost.of_some (.node 7 sa sc set (some ⟨w5.heap.size,0,none⟩) 1 [s0] mn mx mode n false) (by
       rw [HR.o,←ST.o]
       show some (mkT 7 [s0.tree])=some (.node 7 set [s0.tree] mn mx mode n false)
       rw [HE1.o,HE2.o.1,HE2.o.2.1,HE2.o.2.2,HE3.o];rfl) rfl H2.o H3.o H4.o
   ·have h2b:(op1==2)=false:=by simpa using h2
    have HR:=gi (show R=none by rw [hPR,if_neg (fun h=> h2 h.1)]);clear hPR hX2 hX3 hg hr hk00 hk0m hk0a hk0o fk f1 k1 hb0 hno hlen0;go_enter Tryz.func12,Tryz.ntmps12
    go_upto_region 2 with fail
    rw [←HXE.o,←HBE.o];obtain ⟨y0,y1,y2,y3,y4,y5,y6,y7,yf⟩:=zero_cells (HK0.o.h HZN.o);obtain ⟨z0,z1,z2,z3,z4,z5,z6,z7,zf,HR2,HK2⟩:=nn HBE.o HKX.o HK0.o HZ.o;go_wp2;refine rt HR2.o ?_;exact RulePost.of_none HR.o rfl HK2.o
 ·have HR:=gi (hR0.trans (peelR_none (op:=op) (set:=set) (kids:=MRe.trees kids) (mn:=mn) (mx:=mx) (mode:=mode) (n:=n) (neg:=neg) (fun h=> absurd h h7)));have hb':(op==7)=false:=by simpa using h7
  clear hR0 k1 f1 hno;obtain ⟨c0,c1,c2,c3,c4,c5,c6,c7⟩:=HC.o.cells0;go_enter Tryz.func12,Tryz.ntmps12
  go_upto_region 2 with fail
  rw [←HXE.o,←HBE.o];obtain ⟨y0,y1,y2,y3,y4,y5,y6,y7,yf⟩:=zero_cells (HK0.o.h HZN.o);obtain ⟨z0,z1,z2,z3,z4,z5,z6,z7,zf,HR2,HK2⟩:=nn HBE.o HKX.o HK0.o HZ.o;go_wp2;refine rt HR2.o ?_;exact RulePost.of_none HR.o rfl HK2.o
theorem rapply7_any (m:MRe) (w:World) (k1:m.OK w) (f1:m.tree.WF):
  Calls Tryz.prog 12 #[H J 7,m.val] w (RulePost w m.blocks (onceR m.tree)):=by
 obtain ⟨R,hR0⟩:∃ R,R=onceR m.tree:=⟨_,rfl⟩;rw [←hR0];obtain ⟨op,sa,sc,set,ka,kc,kids,mn,mx,mode,n,neg⟩:=m;have hno:=wf_node f1;obtain ⟨B,hBe⟩:∃ B,B=w.heap.size:=⟨_,rfl⟩;obtain ⟨X,hXe,hb8,hz,hzn,hsz,hkX⟩:=applyZ w (.node op sa sc set ka kc kids mn mx mode n neg) 26;simp only [MRe.row] at hXe;rw [←hBe] at hb8 hz hzn hsz;have HBE:=gi hBe;have HXE:=gi hXe;have HC:=gi hb8;have HZ:=gi hz;have HZN:=gi hzn;have HKX:=gi hkX;clear hBe hXe hb8 hz hzn hkX;have HXS:=gi hsz;have HLT:=gi k1.block_lt;have HK0:=gi (Keeps.refl [] X);have HR0:=gi (show R=if op=4∧mn=1∧mx=1∧mode≠2 then some ((MRe.trees kids).getD 0 .nil) else none from hR0);simp only [MRe.val];clear hR0 hsz
 by_cases a1:op=4
 ·by_cases a2:mn=1
  ·by_cases a3:mx=1
   ·by_cases a4:mode=2
    ·have HR:=gi (show R=none from HR0.o.trans (if_neg (fun h=> h.2.2.2 a4)));subst a1 a2 a3 a4;clear k1 f1 hno HR0;obtain ⟨c0,c1,c2,c3,c4,c5,c6,c7⟩:=HC.o.cells0;go_enter Tryz.func12,Tryz.ntmps12
     go_upto_region 2 with fail
     rw [←HXE.o,←HBE.o];obtain ⟨y0,y1,y2,y3,y4,y5,y6,y7,yf⟩:=zero_cells (HK0.o.h HZN.o);obtain ⟨z0,z1,z2,z3,z4,z5,z6,z7,zf,HR2,HK2⟩:=nn HBE.o HKX.o HK0.o HZ.o;go_wp2;refine rt HR2.o ?_;exact RulePost.of_none HR.o rfl HK2.o
    ·have hlen0:kids.length=1:=hno.hone (.inl a1);have hln0:0 < kids.length:=by omega
     have hln:(0:Int) < (kids.length:Int):=by omega
     obtain ⟨b1,o1,k0,rfl,hk0m,hk00,hk0a,hk0o⟩:=k1.kids.head hln0;obtain ⟨r,hr⟩:=trees_head hk00;have HR:=gi (show R=some k0.tree by rw [HR0.o,if_pos ⟨a1,a2,a3,a4⟩,hr];rfl);have HFR:=gi (show From (B + 2) (MRe.node op sa sc set (some ⟨b1,o1,none⟩) kc kids mn mx mode n neg).blocks k0.blocks from From.of_mem (blocks_kid hk0m));have a4b:(mode==2)=false:=by simpa using a4
     have a4c:(mode !=2)=true:=by simpa using a4
     subst a1 a2 a3;obtain ⟨op1,sa1,sc1,set1,ka1,kc1,kids1,mn1,mx1,mode1,n1,neg1⟩:=k0;have HOK:=gi hk0o;have g:=hk0a.node;obtain ⟨e0,e1,e2,e3,e4,e5,e6,e7⟩:=id g;obtain ⟨d0,d1,d2,d3,d4,d5,d6,d7⟩:=HKX.o.c8 e0 e1 e2 e3 e4 e5 e6 e7;obtain ⟨z0,z1,z2,z3,z4,z5,z6,z7,zf⟩:=zero_cells HZ.o;obtain ⟨hR,hok,hke,hfr2⟩:=rule_store HBE.o HKX.o HK0.o HZ.o (HOK.o.keep HKX.o) HFR.o HLT.o;have H1:=gi hR;have H2:=gi hok;have H3:=gi hke;have H4:=gi hfr2;clear g e0 e1 e2 e3 e4 e5 e6 e7 hk0m hk00 hk0a hk0o hr hlen0 k1 f1 hno hR hok hke hfr2 HR0;obtain ⟨c0,c1,c2,c3,c4,c5,c6,c7⟩:=HC.o.cells0;go_enter Tryz.func12,Tryz.ntmps12
     go_upto_region 2 with fail
     rw [←HXE.o,←HBE.o];go_wp2;refine rt H1.o ?_;exact RulePost.of_some (.node op1 sa1 sc1 set1 ka1 kc1 kids1 mn1 mx1 mode1 n1 neg1) HR.o rfl H2.o H3.o H4.o
   ·have HR:=gi (show R=none from HR0.o.trans (if_neg (fun h=> a3 h.2.2.1)));have hb:(mx !=1)=true:=by simpa using a3
    have hb':(mx==1)=false:=by simpa using a3
    subst a1 a2;clear k1 f1 hno HR0;obtain ⟨c0,c1,c2,c3,c4,c5,c6,c7⟩:=HC.o.cells0;go_enter Tryz.func12,Tryz.ntmps12
    go_upto_region 2 with fail
    rw [←HXE.o,←HBE.o];obtain ⟨y0,y1,y2,y3,y4,y5,y6,y7,yf⟩:=zero_cells (HK0.o.h HZN.o);obtain ⟨z0,z1,z2,z3,z4,z5,z6,z7,zf,HR2,HK2⟩:=nn HBE.o HKX.o HK0.o HZ.o;go_wp2;refine rt HR2.o ?_;exact RulePost.of_none HR.o rfl HK2.o
  ·have HR:=gi (show R=none from HR0.o.trans (if_neg (fun h=> a2 h.2.1)));have hb:(mn !=1)=true:=by simpa using a2
   have hb':(mn==1)=false:=by simpa using a2
   subst a1;clear k1 f1 hno HR0;obtain ⟨c0,c1,c2,c3,c4,c5,c6,c7⟩:=HC.o.cells0;go_enter Tryz.func12,Tryz.ntmps12
   go_upto_region 2 with fail
   rw [←HXE.o,←HBE.o];obtain ⟨y0,y1,y2,y3,y4,y5,y6,y7,yf⟩:=zero_cells (HK0.o.h HZN.o);obtain ⟨z0,z1,z2,z3,z4,z5,z6,z7,zf,HR2,HK2⟩:=nn HBE.o HKX.o HK0.o HZ.o;go_wp2;refine rt HR2.o ?_;exact RulePost.of_none HR.o rfl HK2.o
 ·have HR:=gi (show R=none from HR0.o.trans (if_neg (fun h=> a1 h.1)));have hb:(op !=4)=true:=by simpa using a1
  have hb':(op==4)=false:=by simpa using a1
  clear k1 f1 hno HR0;obtain ⟨c0,c1,c2,c3,c4,c5,c6,c7⟩:=HC.o.cells0;go_enter Tryz.func12,Tryz.ntmps12
  go_upto_region 2 with fail
  rw [←HXE.o,←HBE.o];obtain ⟨y0,y1,y2,y3,y4,y5,y6,y7,yf⟩:=zero_cells (HK0.o.h HZN.o);obtain ⟨z0,z1,z2,z3,z4,z5,z6,z7,zf,HR2,HK2⟩:=nn HBE.o HKX.o HK0.o HZ.o;go_wp2;refine rt HR2.o ?_;exact RulePost.of_none HR.o rfl HK2.o
theorem rapply15_any (m:MRe) (w:World) (k1:m.OK w) (f1:m.tree.WF):
  Calls Tryz.prog 12 #[H J 15,m.val] w (RulePost w m.blocks (looseR m.tree)):=by
 obtain ⟨R,hR0⟩:∃ R,R=looseR m.tree:=⟨_,rfl⟩;rw [←hR0];obtain ⟨op,sa,sc,set,ka,kc,kids,mn,mx,mode,n,neg⟩:=m;have hno:=wf_node f1;obtain ⟨B,hBe⟩:∃ B,B=w.heap.size:=⟨_,rfl⟩;obtain ⟨X,hXe,hb8,hz,hzn,hsz,hkX⟩:=applyZ w (.node op sa sc set ka kc kids mn mx mode n neg) 26;simp only [MRe.row] at hXe;rw [←hBe] at hb8 hz hzn hsz;have HBE:=gi hBe;have HXE:=gi hXe;have HC:=gi hb8;have HZ:=gi hz;have HZN:=gi hzn;have HKX:=gi hkX;clear hBe hXe hb8 hz hzn hkX;have HXS:=gi hsz;have HLT:=gi k1.block_lt;have HK0:=gi (Keeps.refl [] X);replace hR0:R=if op=9∧singleT ((MRe.trees kids).getD 0 .nil)=true then some ((MRe.trees kids).getD 0 .nil) else none:=hR0;simp only [MRe.val];clear hsz
 by_cases a1:op=9
 ·have hlen0:kids.length=1:=hno.hone (by simp [a1]);have hln0:0 < kids.length:=by omega
  have hln:(0:Int) < (kids.length:Int):=by omega
  obtain ⟨b1,o1,k0,rfl,hk0m,hk00,hk0a,hk0o⟩:=k1.kids.head hln0;obtain ⟨r,hr⟩:=trees_head hk00;have hg:(MRe.trees kids).getD 0 .nil=k0.tree:=by rw [hr];rfl
  rw [hg] at hR0;have HS:=fun W (h:Keeps [] w W)=> rsingle_any k0 W (hk0o.keep h) (wf_kid f1 hk0m);obtain ⟨q,hq⟩:∃ q,q=singleT k0.tree:=⟨_,rfl⟩;simp only [←hq] at HS hR0;have HFR:=gi (show From (B + 2) (MRe.node op sa sc set (some ⟨b1,o1,none⟩) kc kids mn mx mode n neg).blocks k0.blocks from From.of_mem (blocks_kid hk0m));subst a1
  cases q with
  | false=>
   have HR:=gi (show R=none from hR0.trans (if_neg (fun h=> by cases h.2)));clear hR0;obtain ⟨op1,sa1,sc1,set1,ka1,kc1,kids1,mn1,mx1,mode1,n1,neg1⟩:=k0;have g:=hk0a.node;obtain ⟨e0,e1,e2,e3,e4,e5,e6,e7⟩:=id g;obtain ⟨d0,d1,d2,d3,d4,d5,d6,d7⟩:=HKX.o.c8 e0 e1 e2 e3 e4 e5 e6 e7;simp only [MRe.val] at HS;have HS:=gi HS;clear g e0 e1 e2 e3 e4 e5 e6 e7 hk0m hk00 hk0a hk0o hr hlen0 k1 f1 hno hg hq;obtain ⟨c0,c1,c2,c3,c4,c5,c6,c7⟩:=HC.o.cells0;go_enter Tryz.func12,Tryz.ntmps12
   go_upto_region 2 with fail
   rw [←HXE.o,←HBE.o];go_wp2_with fail
   refine Calls.mono (HS.o _ HKX.o) ?_;rintro e w2 ⟨rfl,hk2⟩;have K2:=gi hk2;clear hk2;obtain ⟨y0,y1,y2,y3,y4,y5,y6,y7,yf⟩:=zero_cells (K2.o.h HZN.o);obtain ⟨z0,z1,z2,z3,z4,z5,z6,z7,zf,HR2,HK2⟩:=nn HBE.o HKX.o K2.o HZ.o;go_wp2;refine rt HR2.o ?_;exact RulePost.of_none HR.o rfl HK2.o
  | true=>
   have HR:=gi (show R=some k0.tree from hR0.trans (if_pos ⟨rfl,rfl⟩));clear hR0;obtain ⟨op1,sa1,sc1,set1,ka1,kc1,kids1,mn1,mx1,mode1,n1,neg1⟩:=k0;have HOK:=gi hk0o;have g:=hk0a.node;obtain ⟨e0,e1,e2,e3,e4,e5,e6,e7⟩:=id g;obtain ⟨d0,d1,d2,d3,d4,d5,d6,d7⟩:=HKX.o.c8 e0 e1 e2 e3 e4 e5 e6 e7;simp only [MRe.val] at HS;have HS:=gi HS;clear g e0 e1 e2 e3 e4 e5 e6 e7 hk0m hk00 hk0a hk0o hr hlen0 k1 f1 hno hg hq;obtain ⟨c0,c1,c2,c3,c4,c5,c6,c7⟩:=HC.o.cells0;go_enter Tryz.func12,Tryz.ntmps12
   go_upto_region 2 with fail
   rw [←HXE.o,←HBE.o];go_wp2_with fail
   refine Calls.mono (HS.o _ HKX.o) ?_;rintro e w2 ⟨rfl,hk2⟩;have K2:=gi hk2;obtain ⟨u0,u1,u2,u3,u4,u5,u6,u7⟩:=K2.o.c8 c0 c1 c2 c3 c4 c5 c6 c7;obtain ⟨v0,v1,v2,v3,v4,v5,v6,v7⟩:=K2.o.c8 d0 d1 d2 d3 d4 d5 d6 d7;obtain ⟨z0,z1,z2,z3,z4,z5,z6,z7,zf⟩:=zero_cells (K2.o.h HZ.o);obtain ⟨hR,hok,hke,hfr2⟩:=rule_store HBE.o HKX.o K2.o HZ.o (HOK.o.keep (HKX.o.trans K2.o)) HFR.o HLT.o;have H1:=gi hR;have H2:=gi hok;have H3:=gi hke;have H4:=gi hfr2;clear hk2 c0 c1 c2 c3 c4 c5 c6 c7 d0 d1 d2 d3 d4 d5 d6 d7 hR hok hke hfr2;go_wp2;refine rt H1.o ?_;exact RulePost.of_some (.node op1 sa1 sc1 set1 ka1 kc1 kids1 mn1 mx1 mode1 n1 neg1) HR.o rfl H2.o H3.o H4.o
 ·have HR:=gi (show R=none from hR0.trans (if_neg (fun h=> a1 h.1)));clear hR0;have hb:(op !=9)=true:=by simpa using a1
  have hb':(op==9)=false:=by simpa using a1
  clear k1 f1 hno;obtain ⟨c0,c1,c2,c3,c4,c5,c6,c7⟩:=HC.o.cells0;go_enter Tryz.func12,Tryz.ntmps12
  go_upto_region 2 with fail
  rw [←HXE.o,←HBE.o];obtain ⟨y0,y1,y2,y3,y4,y5,y6,y7,yf⟩:=zero_cells (HK0.o.h HZN.o);obtain ⟨z0,z1,z2,z3,z4,z5,z6,z7,zf,HR2,HK2⟩:=nn HBE.o HKX.o HK0.o HZ.o;go_wp2;refine rt HR2.o ?_;exact RulePost.of_none HR.o rfl HK2.o
theorem rapply14_any (m:MRe) (w:World) (k1:m.OK w) (f1:m.tree.WF):
  Calls Tryz.prog 12 #[H J 14,m.val] w (RulePost w m.blocks (sureR m.tree)):=by
 obtain ⟨R,hR0⟩:∃ R,R=sureR m.tree:=⟨_,rfl⟩;rw [←hR0];obtain ⟨op,sa,sc,set,ka,kc,kids,mn,mx,mode,n,neg⟩:=m;have hno:=wf_node f1;obtain ⟨B,hBe⟩:∃ B,B=w.heap.size:=⟨_,rfl⟩;obtain ⟨X,hXe,hb8,hz,hzn,hsz,hkX⟩:=applyZ w (.node op sa sc set ka kc kids mn mx mode n neg) 26;simp only [MRe.row] at hXe;rw [←hBe] at hb8 hz hzn hsz;have HBE:=gi hBe;have HXE:=gi hXe;have HC:=gi hb8;have HZ:=gi hz;have HZN:=gi hzn;have HKX:=gi hkX;clear hBe hXe hb8 hz hzn hkX;have HXS:=gi hsz;have HLT:=gi k1.block_lt;have HK0:=gi (Keeps.refl [] X);replace hR0:R=if op=7∧neg=false∧plainP ((MRe.trees kids).getD 0 .nil)=true∧nullP ((MRe.trees kids).getD 0 .nil)=true then some .nil else none:=hR0;simp only [MRe.val];clear hsz
 by_cases a1:op=7
 ·cases neg with
  | true=>
   have HR:=gi (show R=none from hR0.trans (if_neg (fun h=> by cases h.2.1)));clear hR0;subst a1;clear k1 f1 hno;obtain ⟨c0,c1,c2,c3,c4,c5,c6,c7⟩:=HC.o.cells0;go_enter Tryz.func12,Tryz.ntmps12
   go_upto_region 2 with fail
   rw [←HXE.o,←HBE.o];obtain ⟨y0,y1,y2,y3,y4,y5,y6,y7,yf⟩:=zero_cells (HK0.o.h HZN.o);obtain ⟨z0,z1,z2,z3,z4,z5,z6,z7,zf,HR2,HK2⟩:=nn HBE.o HKX.o HK0.o HZ.o;go_wp2;refine rt HR2.o ?_;exact RulePost.of_none HR.o rfl HK2.o
  | false=>
   have hlen0:kids.length=1:=hno.hone (by simp [a1]);have hln0:0 < kids.length:=by omega
   have hln:(0:Int) < (kids.length:Int):=by omega
   obtain ⟨b1,o1,k0,rfl,hk0m,hk00,hk0a,hk0o⟩:=k1.kids.head hln0;obtain ⟨r,hr⟩:=trees_head hk00;have hg:(MRe.trees kids).getD 0 .nil=k0.tree:=by rw [hr];rfl
   rw [hg] at hR0;have HPL:=fun W (h:Keeps [] w W)=> rplain_any k0 W (hk0o.keep h) (wf_kid f1 hk0m).q;have HNL:=fun W (h:Keeps [] w W)=> rnull_any k0 W (hk0o.keep h) (wf_kid f1 hk0m).q;obtain ⟨p,hp⟩:∃ p,p=plainP k0.tree:=⟨_,rfl⟩;obtain ⟨q,hq⟩:∃ q,q=nullP k0.tree:=⟨_,rfl⟩;simp only [←hp] at HPL hR0;simp only [←hq] at HNL hR0;subst a1;obtain ⟨op1,sa1,sc1,set1,ka1,kc1,kids1,mn1,mx1,mode1,n1,neg1⟩:=k0;have g:=hk0a.node;obtain ⟨e0,e1,e2,e3,e4,e5,e6,e7⟩:=id g;obtain ⟨d0,d1,d2,d3,d4,d5,d6,d7⟩:=HKX.o.c8 e0 e1 e2 e3 e4 e5 e6 e7;simp only [MRe.val] at HPL HNL;have HPL:=gi HPL;have HNL:=gi HNL;clear g e0 e1 e2 e3 e4 e5 e6 e7 hk0m hk00 hk0a hk0o hr hlen0 k1 f1 hno hg hp hq;have HR0:=gi hR0;clear hR0;obtain ⟨c0,c1,c2,c3,c4,c5,c6,c7⟩:=HC.o.cells0;go_enter Tryz.func12,Tryz.ntmps12
   go_upto_region 2 with fail
   rw [←HXE.o,←HBE.o];go_wp2_with fail
   refine Calls.mono (HPL.o _ HKX.o) ?_;rintro e w2 ⟨rfl,hk2⟩;have K2:=gi hk2;obtain ⟨u0,u1,u2,u3,u4,u5,u6,u7⟩:=K2.o.c8 c0 c1 c2 c3 c4 c5 c6 c7;obtain ⟨v0,v1,v2,v3,v4,v5,v6,v7⟩:=K2.o.c8 d0 d1 d2 d3 d4 d5 d6 d7;clear hk2 c0 c1 c2 c3 c4 c5 c6 c7 d0 d1 d2 d3 d4 d5 d6 d7 HPL
   cases p with
   | false=>
    have HR:=gi (show R=none from HR0.o.trans (if_neg (fun h=> by cases h.2.2.1)));obtain ⟨y0,y1,y2,y3,y4,y5,y6,y7,yf⟩:=zero_cells (K2.o.h HZN.o);obtain ⟨z0,z1,z2,z3,z4,z5,z6,z7,zf,HR2,HK2⟩:=nn HBE.o HKX.o K2.o HZ.o;go_wp2;refine rt HR2.o ?_;exact RulePost.of_none HR.o rfl HK2.o
   | true=>
    go_wp2_with fail
    refine Calls.mono (HNL.o _ (HKX.o.trans K2.o)) ?_;rintro e w3 ⟨rfl,hk3⟩;have K3:=gi (K2.o.trans hk3);clear hk3 u0 u1 u2 u3 u4 u5 u6 u7 v0 v1 v2 v3 v4 v5 v6 v7 HNL
    cases q with
    | false=>
     have HR:=gi (show R=none from HR0.o.trans (if_neg (fun h=> by cases h.2.2.2)));obtain ⟨y0,y1,y2,y3,y4,y5,y6,y7,yf⟩:=zero_cells (K3.o.h HZN.o);obtain ⟨z0,z1,z2,z3,z4,z5,z6,z7,zf,HR2,HK2⟩:=nn HBE.o HKX.o K3.o HZ.o;go_wp2;refine rt HR2.o ?_;exact RulePost.of_none HR.o rfl HK2.o
    | true=>
     obtain ⟨y0,y1,y2,y3,y4,y5,y6,y7,yf⟩:=zero_cells (K3.o.h HZN.o);have HR:=gi (show R=some Tree.nil from HR0.o.trans (if_pos (by simp)));obtain ⟨z0,z1,z2,z3,z4,z5,z6,z7,zf⟩:=zero_cells (K3.o.h HZ.o);obtain ⟨H1,H2,H3,H4⟩:=js (rule_store (op:=0) (sa:=none) (sc:=0) (set:=[]) (ka:=none) (kc:=0) (kids:=[]) (mn:=0) (mx:=0) (mode:=0) (n:=0) (neg:=false) HBE.o HKX.o K3.o HZ.o (MRe.OK.nil _) (show From (B + 2) (MRe.node 7 sa sc set (some ⟨b1,o1,none⟩) kc kids mn mx mode n false).blocks MRe.nil.blocks from fun x hx=> by simp [MRe.nil,MRe.blocks,MRe.blocksL,blockIf] at hx) HLT.o);go_wp2;refine rt H1.o ?_;exact RulePost.of_some MRe.nil HR.o rfl H2.o H3.o H4.o
 ·have HR:=gi (show R=none from hR0.trans (if_neg (fun h=> a1 h.1)));clear hR0;have hb:(op !=7)=true:=by simpa using a1
  have hb':(op==7)=false:=by simpa using a1
  clear k1 f1 hno;obtain ⟨c0,c1,c2,c3,c4,c5,c6,c7⟩:=HC.o.cells0;go_enter Tryz.func12,Tryz.ntmps12
  go_upto_region 2 with fail
  rw [←HXE.o,←HBE.o];obtain ⟨y0,y1,y2,y3,y4,y5,y6,y7,yf⟩:=zero_cells (HK0.o.h HZN.o);obtain ⟨z0,z1,z2,z3,z4,z5,z6,z7,zf,HR2,HK2⟩:=nn HBE.o HKX.o HK0.o HZ.o;go_wp2;refine rt HR2.o ?_;exact RulePost.of_none HR.o rfl HK2.o
theorem rapply16_any (m:MRe) (w:World) (k1:m.OK w) (f1:m.tree.WF):
  Calls Tryz.prog 12 #[H J 16,m.val] w (RulePost w m.blocks (ownR m.tree)):=by
 obtain ⟨R,hR0⟩:∃ R,R=ownR m.tree:=⟨_,rfl⟩;rw [←hR0];obtain ⟨op,sa,sc,set,ka,kc,kids,mn,mx,mode,n,neg⟩:=m;have hno:=wf_node f1;obtain ⟨B,hBe⟩:∃ B,B=w.heap.size:=⟨_,rfl⟩;obtain ⟨X,hXe,hb8,hz,hzn,hsz,hkX⟩:=applyZ w (.node op sa sc set ka kc kids mn mx mode n neg) 26;simp only [MRe.row] at hXe;rw [←hBe] at hb8 hz hzn hsz;have HBE:=gi hBe;have HXE:=gi hXe;have HC:=gi hb8;have HZ:=gi hz;have HZN:=gi hzn;have HKX:=gi hkX;clear hBe hXe hb8 hz hzn hkX;have HXS:=gi hsz;have HLT:=gi k1.block_lt;have HK0:=gi (Keeps.refl [] X);replace hR0:R=if op=9∧((MRe.trees kids).getD 0 .nil).op=4∧((MRe.trees kids).getD 0 .nil).mode=0 then some (heldT ((MRe.trees kids).getD 0 .nil)) else none:=hR0;simp only [MRe.val];clear hsz
 by_cases a1:op=9
 ·have hlen0:kids.length=1:=hno.hone (by simp [a1]);have hln0:0 < kids.length:=by omega
  have hln:(0:Int) < (kids.length:Int):=by omega
  obtain ⟨b1,o1,k0,rfl,hk0m,hk00,hk0a,hk0o⟩:=k1.kids.head hln0;obtain ⟨r,hr⟩:=trees_head hk00;have hg:(MRe.trees kids).getD 0 .nil=k0.tree:=by rw [hr];rfl
  rw [hg] at hR0;have HFR:=gi (show From (B + 2) (MRe.node op sa sc set (some ⟨b1,o1,none⟩) kc kids mn mx mode n neg).blocks k0.blocks from From.of_mem (blocks_kid hk0m));subst a1;obtain ⟨op1,sa1,sc1,set1,ka1,kc1,kids1,mn1,mx1,mode1,n1,neg1⟩:=k0;have hg1:(MRe.tree (.node op1 sa1 sc1 set1 ka1 kc1 kids1 mn1 mx1 mode1 n1 neg1)).op=op1:=rfl;have hg2:(MRe.tree (.node op1 sa1 sc1 set1 ka1 kc1 kids1 mn1 mx1 mode1 n1 neg1)).mode=mode1:=rfl;rw [hg1,hg2] at hR0;have HOK:=gi hk0o;have g:=hk0a.node;obtain ⟨e0,e1,e2,e3,e4,e5,e6,e7⟩:=id g;obtain ⟨d0,d1,d2,d3,d4,d5,d6,d7⟩:=HKX.o.c8 e0 e1 e2 e3 e4 e5 e6 e7;clear g e0 e1 e2 e3 e4 e5 e6 e7 hk0m hk00 hk0a hk0o hr hlen0 k1 f1 hno hg hg1 hg2
  by_cases a4:op1=4
  ·by_cases a0:mode1=0
   ·have HR:=gi (show R=some (heldT (MRe.tree (.node op1 sa1 sc1 set1 ka1 kc1 kids1 mn1 mx1 mode1 n1 neg1))) from hR0.trans (if_pos ⟨rfl,a4,a0⟩));clear hR0;subst a4 a0;obtain ⟨c0,c1,c2,c3,c4,c5,c6,c7⟩:=HC.o.cells0;go_enter Tryz.func12,Tryz.ntmps12
    go_upto_region 2 with fail
    rw [←HXE.o,←HBE.o];go_upto_region 50 with fail
    obtain ⟨C,hCe⟩:∃ C,C=X.heap.size:=⟨_,rfl⟩;obtain ⟨Y,hYe⟩:∃ Y,Y=X.alloc (.cells #[H J 4,M sa1 set1.length sc1,M ka1 kids1.length kc1,H J mn1,H J mx1,H J 0,H J n1,F neg1] 26):=⟨_,rfl⟩;have hkY:Keeps [] X Y:=by rw [hYe];exact Keeps.a1 _ _
    have hCH:Y.heap[C]? =some (.cells #[H J 4,M sa1 set1.length sc1,M ka1 kids1.length kc1,H J mn1,H J mx1,H J 0,H J n1,F neg1] 26 (0,0)):=by rw [hYe,hCe];exact heap_alloc_new X _
    rw [←hYe,←hCe];have KY:=gi hkY;have HCH:=gi hCH;have HCE:=gi hCe;obtain ⟨p0,p1,p2,p3,p4,p5,p6,p7⟩:=row_cells hCH;have pf:=row_frozen hCH;clear hCe hYe hkY hCH c0 c1 c2 c3 c4 c5 c6 c7 d0 d1 d2 d3 d4 d5 d6 d7;go_upto_region 51 with fail
    obtain ⟨V,hVe⟩:∃ V,V=Y.setCell ⟨C,5,none⟩ (H J 2):=⟨_,rfl⟩;have hkV:Keeps [C] Y V:=by rw [hVe];exact (Keeps.refl [C] Y).setCell (p:=⟨C,5,none⟩) (.inl (by simp)) _
    have hVC:V.heap[C]? =some (.cells #[H J 4,M sa1 set1.length sc1,M ka1 kids1.length kc1,H J mn1,H J mx1,H J 2,H J n1,F neg1] 26 (0,0)):=by rw [hVe];exact heap_setCell_same _ C 5 _ _ _ HCH.o
    rw [←hVe];obtain ⟨a0,a1,a2,a3,a4,a5,a6,a7⟩:=row_cells hVC;have KV:=gi (show Keeps [] X V from KY.o.after hkV (by intro x hx;simp at hx;subst hx;exact .inr (by rw [HCE.o];exact Nat.le_refl _)));obtain ⟨z0,z1,z2,z3,z4,z5,z6,z7,zf⟩:=zero_cells (KV.o.h HZ.o);have ho:MRe.OK V (.node 4 sa1 sc1 set1 ka1 kc1 kids1 mn1 mx1 2 n1 neg1):=.of (HOK.o.spans.keep (HKX.o.trans KV.o)) (HOK.o.kids.keep (HKX.o.trans KV.o));obtain ⟨hR,hok,hke,hfr2⟩:=rule_store HBE.o HKX.o KV.o HZ.o ho HFR.o HLT.o;have H1:=gi hR;have H2:=gi hok;have H3:=gi hke;have H4:=gi hfr2;clear hR hok hke hfr2 ho hVe hkV hVC p0 p1 p2 p3 p4 p5 p6 p7 pf;go_wp2;refine rt H1.o ?_;exact RulePost.of_some (.node 4 sa1 sc1 set1 ka1 kc1 kids1 mn1 mx1 2 n1 neg1) HR.o rfl H2.o H3.o H4.o
   ·have HR:=gi (show R=none from hR0.trans (if_neg (fun h=> a0 h.2.2)));clear hR0;have hb:(mode1 !=0)=true:=by simpa using a0
    have hb':(mode1==0)=false:=by simpa using a0
    subst a4;obtain ⟨c0,c1,c2,c3,c4,c5,c6,c7⟩:=HC.o.cells0;go_enter Tryz.func12,Tryz.ntmps12
    go_upto_region 2 with fail
    rw [←HXE.o,←HBE.o];obtain ⟨y0,y1,y2,y3,y4,y5,y6,y7,yf⟩:=zero_cells (HK0.o.h HZN.o);obtain ⟨z0,z1,z2,z3,z4,z5,z6,z7,zf,HR2,HK2⟩:=nn HBE.o HKX.o HK0.o HZ.o;go_wp2;refine rt HR2.o ?_;exact RulePost.of_none HR.o rfl HK2.o
  ·have HR:=gi (show R=none from hR0.trans (if_neg (fun h=> a4 h.2.1)));clear hR0;have hb:(op1 !=4)=true:=by simpa using a4
   have hb':(op1==4)=false:=by simpa using a4
   obtain ⟨c0,c1,c2,c3,c4,c5,c6,c7⟩:=HC.o.cells0;go_enter Tryz.func12,Tryz.ntmps12
   go_upto_region 2 with fail
   rw [←HXE.o,←HBE.o];obtain ⟨y0,y1,y2,y3,y4,y5,y6,y7,yf⟩:=zero_cells (HK0.o.h HZN.o);obtain ⟨z0,z1,z2,z3,z4,z5,z6,z7,zf,HR2,HK2⟩:=nn HBE.o HKX.o HK0.o HZ.o;go_wp2;refine rt HR2.o ?_;exact RulePost.of_none HR.o rfl HK2.o
 ·have HR:=gi (show R=none from hR0.trans (if_neg (fun h=> a1 h.1)));clear hR0;have hb:(op !=9)=true:=by simpa using a1
  have hb':(op==9)=false:=by simpa using a1
  clear k1 f1 hno;obtain ⟨c0,c1,c2,c3,c4,c5,c6,c7⟩:=HC.o.cells0;go_enter Tryz.func12,Tryz.ntmps12
  go_upto_region 2 with fail
  rw [←HXE.o,←HBE.o];obtain ⟨y0,y1,y2,y3,y4,y5,y6,y7,yf⟩:=zero_cells (HK0.o.h HZN.o);obtain ⟨z0,z1,z2,z3,z4,z5,z6,z7,zf,HR2,HK2⟩:=nn HBE.o HKX.o HK0.o HZ.o;go_wp2;refine rt HR2.o ?_;exact RulePost.of_none HR.o rfl HK2.o
theorem rapply_none (r:Int) (hr:r= -1∨r=17) (m:MRe) (w:World) (k1:m.OK w):
  Calls Tryz.prog 12 #[H J r,m.val] w (RulePost w m.blocks none):=by
 obtain ⟨R,hR0⟩:∃ R:Option Tree,R=none:=⟨_,rfl⟩;rw [←hR0];have HR:=gi hR0;obtain ⟨op,sa,sc,set,ka,kc,kids,mn,mx,mode,n,neg⟩:=m;obtain ⟨B,hBe⟩:∃ B,B=w.heap.size:=⟨_,rfl⟩;obtain ⟨X,hXe,hb8,hz,hzn,hsz,hkX⟩:=applyZ w (.node op sa sc set ka kc kids mn mx mode n neg) 26;simp only [MRe.row] at hXe;rw [←hBe] at hb8 hz hzn hsz;have HBE:=gi hBe;have HXE:=gi hXe;have HC:=gi hb8;have HZ:=gi hz;have HZN:=gi hzn;have HKX:=gi hkX;have HK0:=gi (Keeps.refl [] X);simp only [MRe.val];clear hR0 hBe hXe hb8 hz hzn hsz hkX k1
 rcases hr with rfl | rfl
 ·obtain ⟨y0,y1,y2,y3,y4,y5,y6,y7,yf⟩:=zero_cells HZN.o;go_enter Tryz.func12,Tryz.ntmps12
  go_upto_region 2 with fail
  rw [←HXE.o,←HBE.o];obtain ⟨z0,z1,z2,z3,z4,z5,z6,z7,zf,HR2,HK2⟩:=nn HBE.o HKX.o HK0.o HZ.o;go_wp2;refine rt HR2.o ?_;exact RulePost.of_none HR.o rfl HK2.o
 ·obtain ⟨y0,y1,y2,y3,y4,y5,y6,y7,yf⟩:=zero_cells HZN.o;go_enter Tryz.func12,Tryz.ntmps12
  go_upto_region 2 with fail
  rw [←HXE.o,←HBE.o];obtain ⟨z0,z1,z2,z3,z4,z5,z6,z7,zf,HR2,HK2⟩:=nn HBE.o HKX.o HK0.o HZ.o;go_wp2;refine rt HR2.o ?_;exact RulePost.of_none HR.o rfl HK2.o
end Go.Proofs.YtjnlkjlbejelgaaGreat
