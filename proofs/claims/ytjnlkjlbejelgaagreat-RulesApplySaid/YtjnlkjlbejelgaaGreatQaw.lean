/- Part 23 of the proof. No condition: every lemma says its own. -/
import Derived.Test.YtjnlkjlbejelgaaGreatQav
import Derived.Test.YtjnlkjlbejelgaaGreatQar
namespace Go.Proofs.YtjnlkjlbejelgaaGreat
open Go.RowKit
open Go.Value renaming int→H,slice→M,bool→F
open Go.IntKind renaming i64→J
set_option maxRecDepth 100000
set_option maxHeartbeats 16000000
theorem repT_swap {t:Tree} (h:t.WF) (ho:t.op=2∨t.op=3) (i j:Nat) (l:List Tree):repT t i j l=swapT t.op t.kids i j l:=by
 cases t with
 | node op set kids mn mx mode n neg=>
  have hn:=h.node;have ho:op=2∨op=3:=ho;have e1:=hn.hnset (by omega);obtain ⟨e2,e3,e4⟩:=hn.hnrep (by omega);have e5:=hn.hnnum (by omega);have e6:neg=false:=by
   cases hq:neg with
   | false=> rfl
   | true=> have:=hn.hneg hq;omega
  subst e1 e2 e3 e4 e5 e6
  show oneOr _ (kids.take i ++ (l ++ kids.drop j))=naryT op (kids.take i ++ (l ++ kids.drop j))
  match kids.take i ++ (l ++ kids.drop j) with
  | []=> rfl
  | [x]=> rfl
  | x::y::r=> rfl
theorem holdO_short {l:List Tree} (h:l.length≤1):holdO l=none:=by
 match l,h with
 | [],_=> rfl
 | [x],_=> simp [holdO,nullAll]
theorem rhold_any (m:MRe) (w:World) (k1:m.OK w) (f1:m.tree.WF) (ho2:m.tree.op=2) (hb:m.tree.bulk≤100000):
  Calls Tryz.prog 53 #[m.val] w (RulePost w m.blocks (holdR m.tree)):=by
 obtain ⟨R,hR0⟩:∃ R,R=holdR m.tree:=⟨_,rfl⟩;rw [←hR0];have hrep:=fun i l=> repT_swap f1 (.inl ho2) i (i + 1) l;have hswap:=fun (W:World) (h:Keeps [] w W) (i:Nat) (la:Option Addr) (l:MRe)=> replaced_any m i (i + 1) la 1 [l] W (k1.keep h);obtain ⟨op,sa,sc,set,ka,kc,kids,mn,mx,mode,n,neg⟩:=m;obtain ⟨hbl,_,hbk⟩:=kids_bulk hb;have HBK:=gi hbk;have HBB:=gi (show Tree.bulks (MRe.trees kids)≤100000 by
  have:1 + set.length + Tree.bulks (MRe.trees kids)≤100000:=hb
  omega)
 have hno:=wf_node f1;obtain ⟨B,X,HBE,HXE,HC,HZ,hsz,HKX⟩:=pre0 w op sa sc set ka kc kids mn mx mode n neg;have HK0:=gi (Keeps.refl [] X);have HXS:=gi hsz;have HSW:=gi hswap;have HREP:=gi hrep;have HLT:=gi k1.block_lt;have ho2:op=2:=ho2;subst ho2;simp only [MRe.val];clear hb hswap hbk hrep;have hlen:=hno.htwo (by simp);have HR0:=gi (show R=(holdO (MRe.trees kids)).map fun i=> swapT 2 (MRe.trees kids) i (i + 1) [heldT ((MRe.trees kids).getD i .nil)] by rw [hR0];simp only [MRe.tree,holdR,if_pos]);obtain ⟨b,off,rfl,hbb,hx⟩:=k1.nodes.kid (by omega);have hcap:=k1.nodes.cap;have hle:=k1.nodes.le;unfold maxLen at hcap;have HX:=gi hx;have HK1:=gi k1;have HF1:=gi f1;clear hR0 hx k1 f1 hno hbb;obtain ⟨c0,c1,c2,c3,c4,c5,c6,c7⟩:=HC.o.cells0;go_enter Tryz.func53,Tryz.ntmps53
 go_upto_region 1 with fail
 rw [←HXE.o,←HBE.o];go_wp2
 go_loopw [4] (fun i wr=> ∃ k:Nat,k < kids.length∧i=H J k∧(holdO ((MRe.trees kids).drop k)).map (· + k)=holdO (MRe.trees kids)∧Keeps [] X wr) (fun i _=> kids.length - (intOf i).toNat)
 case atStart=> exact ⟨0,by omega,rfl,by rw [List.drop_zero];cases holdO (MRe.trees kids) <;> rfl,Keeps.refl _ _⟩
 case round=>
  obtain ⟨k,hk,rfl,hl,hkp⟩:=hrel;have HL:=gi hl;have HKP:=gi hkp;obtain ⟨t0,t1,t2,t3,t4,t5,t6,t7⟩:=hkp.c8 c0 c1 c2 c3 c4 c5 c6 c7;have hw1:IntKind.i64.wrap ((k:Int) + 1)=(k:Int) + 1:=IntWalk.i64_in _ (by omega);clear hl hkp c0 c1 c2 c3 c4 c5 c6 c7
  by_cases hlt:k + 1 < kids.length
  ·have hltI:(k:Int) + 1 < (kids.length:Int):=by omega
   have hkI:(k:Int) < (kids.length:Int):=by omega
   have hd:=trees_drop kids k hk;have hak:=HX.o k hk;have hok:=HK1.o.kid (List.getElem_mem hk);have hfk:=wf_kid HF1.o (List.getElem_mem hk);have hbkk:=HBK.o _ (List.getElem_mem hk);have hbl':=blocks_kid (op:=2) (sa:=sa) (sc:=sc) (set:=set) (ka:=some ⟨b,off,none⟩) (kc:=kc) (mn:=mn) (mx:=mx) (mode:=mode) (n:=n) (neg:=neg) (List.getElem_mem hk);have hgk:(MRe.trees kids).getD k .nil=kids[k].tree:=by rw [List.getD_eq_getElem?_getD,List.getElem?_eq_getElem (by rw [MRe.trees_length];omega),Option.getD_some,trees_getElem]
   obtain ⟨k0,hk0⟩:∃ k0,k0=kids[k]:=⟨_,rfl⟩;rw [←hk0] at hak hok hfk hbl' hgk hd hbkk;have HD:=gi hd;have HOK:=gi hok;have HFK:=gi hfk;have HBL:=gi hbl';have HGK:=gi hgk;have HBKK:=gi hbkk;obtain ⟨k00,hk00⟩:∃ k00,k00=k0:=⟨_,rfl⟩;have K00:=gi hk00;rw [←hk00] at HD HGK;have hdn:=HK1.o.nodes.drop (k + 1) (by omega);obtain ⟨RA,hRA⟩:∃ RA,RA=(if kc=k + 1 then some (⟨b,off,none⟩:Addr) else some ⟨b,off + (k + 1) * 8,none⟩):=⟨_,rfl⟩;obtain ⟨RC,hRC⟩:∃ RC,RC=kc - (k + 1):=⟨_,rfl⟩;have hsl:∀ W:World,(Instr.sliceAt 24 (M (some ⟨b,off,none⟩) kids.length kc) (some (H J ((k:Int) + 1))) none none).run Tryz.prog W=.ok (M RA (kids.length - (k + 1)) RC) W:=by
    intro W;have q1:(k:Int) + 1≤kids.length:=by omega
    have q0:(0:Int)≤(k:Int) + 1:=by omega
    have q3:((k:Int) + 1).toNat=k + 1:=by omega
    rw [hRA,hRC]
    by_cases q2:kc=k + 1
    ·simp [go_sem,q1,q0,q3,q2]
    ·simp [go_sem,q1,q0,q3,q2]
   rw [←hRA,←hRC] at hdn;have hro:MRe.OK w (.node 2 none 0 [] RA RC (kids.drop (k + 1)) 0 0 0 0 false):=.of (SpansIn.nil _) ⟨hdn,fun x hx=> HK1.o.kid (List.mem_of_mem_drop hx)⟩;have hrt:MRe.tree (.node 2 none 0 [] RA RC (kids.drop (k + 1)) 0 0 0 0 false)=.node 2 [] ((MRe.trees kids).drop (k + 1)) 0 0 0 0 false:=by
    show Tree.node 2 [] (MRe.trees (kids.drop (k + 1))) 0 0 0 0 false=_
    rw [MRe.trees_eq,List.map_drop,←MRe.trees_eq]
   have hrq:(MRe.tree (.node 2 none 0 [] RA RC (kids.drop (k + 1)) 0 0 0 0 false)).WFq:=by
    rw [hrt];exact wfq_cat fun q hq=> HF1.o.kid (List.mem_of_mem_drop hq)
   have hrb:(MRe.tree (.node 2 none 0 [] RA RC (kids.drop (k + 1)) 0 0 0 0 false)).bulk≤100000:=by
    rw [hrt];have h1:=Tree.bulks_take_drop (MRe.trees kids) (k + 1);have h2:=HBB.o;have h3:1 + set.length + Tree.bulks (MRe.trees kids)≤100001 + set.length:=by omega
    have h4:1≤Tree.bulks ((MRe.trees kids).take (k + 1)):=by
     have h5:=Tree.length_le_bulks ((MRe.trees kids).take (k + 1));rw [List.length_take,MRe.trees_length] at h5;omega
    show 1 + 0 + Tree.bulks ((MRe.trees kids).drop (k + 1))≤100000
    omega
   have HN:=fun (W:World) (h:Keeps [] w W)=> rnull_any (.node 2 none 0 [] RA RC (kids.drop (k + 1)) 0 0 0 0 false) W (hro.keep h) hrq;have hn1:nullP (MRe.tree (.node 2 none 0 [] RA RC (kids.drop (k + 1)) 0 0 0 0 false))=nullAll ((MRe.trees kids).drop (k + 1)):=by rw [hrt];rfl
   simp only [hn1,MRe.val,List.length_drop,List.length_nil] at HN;have HRO:=gi hro;have HRT:=gi hrt;have HRQ:=gi hrq;have HRB:=gi hrb;clear hk0 hd hok hfk hbl' hgk hk00 hdn hRA hRC hro hrt hrq hrb hn1 hbkk;obtain ⟨op1,sa1,sc1,set1,ka1,kc1,kids1,mn1,mx1,mode1,n1,neg1⟩:=k0;have g:=hak.node;obtain ⟨e0,e1,e2,e3,e4,e5,e6,e7⟩:=id g;have d0:=(HKX.o.trans HKP.o).c e0;have d1:=(HKX.o.trans HKP.o).c e1;have d2:=(HKX.o.trans HKP.o).c e2;have d3:=(HKX.o.trans HKP.o).c e3;have d4:=(HKX.o.trans HKP.o).c e4;have d5:=(HKX.o.trans HKP.o).c e5;have d6:=(HKX.o.trans HKP.o).c e6;have d7:=(HKX.o.trans HKP.o).c e7;clear g e0 e1 e2 e3 e4 e5 e6 e7 hak;go_upto_region 5 with fail
   obtain ⟨C,hCe⟩:∃ C,C=wr.heap.size:=⟨_,rfl⟩;obtain ⟨Y,hYe⟩:∃ Y,Y=wr.alloc (.cells #[H J op1,M sa1 set1.length sc1,M ka1 kids1.length kc1,H J mn1,H J mx1,H J mode1,H J n1,F neg1] 26):=⟨_,rfl⟩;have hkY:Keeps [] wr Y:=by rw [hYe];exact Keeps.a1 _ _
   have hCH:Y.heap[C]? =some (.cells #[H J op1,M sa1 set1.length sc1,M ka1 kids1.length kc1,H J mn1,H J mx1,H J mode1,H J n1,F neg1] 26 (0,0)):=by rw [hYe,hCe];exact heap_alloc_new wr _
   rw [←hYe,←hCe];have hXC:X.heap.size≤C:=by rw [hCe];exact HKP.o.size
   have hCB:B + 2≤C:=Nat.le_trans HXS.o hXC;have HXC:=gi hXC;have HCB:=gi hCB;have KY:=gi (HKP.o.trans hkY);obtain ⟨y0,y1,y2,y3,y4,y5,y6,y7⟩:=hkY.c8 t0 t1 t2 t3 t4 t5 t6 t7;clear hCe hYe hkY t0 t1 t2 t3 t4 t5 t6 t7 d0 d1 d2 d3 d4 d5 d6 d7 hXC hCB;have HCY:=gi hCH;clear hCH;go_upto_region 6 with fail
   obtain ⟨D,hDe⟩:∃ D,D=Y.heap.size:=⟨_,rfl⟩;obtain ⟨Z,hZe⟩:∃ Z,Z=Y.alloc (.cells #[H J 2,M none 0 0,M RA (kids.length - (k + 1)) RC,H J 0,H J 0,H J 0,H J 0,F false] 26):=⟨_,rfl⟩;have hkZ:Keeps [] Y Z:=by rw [hZe];exact Keeps.a1 _ _
   have hDH:Z.heap[D]? =some (.cells #[H J 2,M none 0 0,M RA (kids.length - (k + 1)) RC,H J 0,H J 0,H J 0,H J 0,F false] 26 (0,0)):=by rw [hZe,hDe];exact heap_alloc_new Y _
   rw [←hZe,←hDe];have KZ:=gi (KY.o.trans hkZ);have HCZ:=gi (hkZ.h HCY.o);have HDH:=gi hDH;obtain ⟨s0,s1,s2,s3,s4,s5,s6,s7⟩:=hkZ.c8 y0 y1 y2 y3 y4 y5 y6 y7;obtain ⟨p0,p1,p2,p3,p4,p5,p6,p7⟩:=row_cells HCZ.o;clear hDe hZe hkZ hDH y0 y1 y2 y3 y4 y5 y6 y7 hsl;have hHK:holdK k00.tree=(op1==4 && (mode1==0 && (mn1 !=mx1 && ((MRe.trees kids1).getD 0 .nil).op==1))):=by rw [K00.o];rfl
   have HHK:=gi hHK;obtain ⟨z,hz⟩:∃ z,z=holdK k00.tree:=⟨_,rfl⟩;rw [←hz] at hHK;have HZZ:=gi hz;clear hz
   go_cut [48] (fun s48 wx=> s48=F (!z)∧Z=wx)
   case first=>
    by_cases a4:op1=4
    ·subst a4
     by_cases a0:mode1=0
     ·subst a0
      by_cases ae:mn1=mx1
      ·subst ae;obtain rfl:z=false:=by rw [hHK];simp
       clear hHK;go_wp2;go_meet;exact ⟨rfl,rfl⟩
      ·have hl1:0 < kids1.length:=by rw [(wf_node HFK.o).hone (by simp)];omega
       have hl1i:(0:Int) < (kids1.length:Int):=by omega
       obtain ⟨b3,o3,k3,rfl,hk3m,hk30,hk3a,hk3o⟩:=HOK.o.kids.head hl1;obtain ⟨r3,hr3⟩:=trees_head hk30;rw [hr3] at hHK;have hz3:z=(k3.tree.op==1):=by rw [hHK];simp [ae]
       have hae:(mn1==mx1)=false:=by simpa using ae
       obtain ⟨op3,sa3,sc3,set3,ka3,kc3,kids3,mn3,mx3,mode3,n3,neg3⟩:=k3;have x0:=(HKX.o.trans KZ.o).cell hk3a.node.c0 (by simp);have hz4:z=(op3==1):=hz3;clear hHK hz3 hr3 hk3m hk30 hk3a hk3o
       by_cases a1:op3=1
       ·subst a1;obtain rfl:z=true:=by rw [hz4];rfl
        clear hz4;go_wp2;go_meet;exact ⟨rfl,rfl⟩
       ·have ha1:(op3 !=1)=true:=by simpa using a1
        obtain rfl:z=false:=by rw [hz4];simpa using a1
        clear hz4;go_wp2;go_meet;exact ⟨rfl,rfl⟩
     ·have ha0:(mode1 !=0)=true:=by simpa using a0
      obtain rfl:z=false:=by rw [hHK];simp [a0]
      clear hHK;go_wp2;go_meet;exact ⟨rfl,rfl⟩
    ·have ha4:(op1 !=4)=true:=by simpa using a4
     obtain rfl:z=false:=by rw [hHK];simp [a4]
     clear hHK;go_wp2;go_meet;exact ⟨rfl,rfl⟩
   case rest=>
    obtain ⟨rfl,rfl⟩:=hcut;clear hHK
    cases z with
    | false=>
     have hst:=holdO_step HD.o rfl (by rw [←HZZ.o];rfl) HL.o;have HST:=gi hst;clear hst;go_wp2;go_roundw
     case rel=> exact ⟨k + 1,by omega,by go_num,HST.o,KZ.o⟩
     case measure=> simp [intOf];omega
    | true=>
     have hh:op1=4∧mode1=0∧mn1≠mx1∧((MRe.trees kids1).getD 0 .nil).op=1:=by
      have:=HHK.o
      rw [←HZZ.o] at this
      simpa using this.symm
     obtain ⟨rfl,rfl,ae,a1⟩:=hh;have hl1:0 < kids1.length:=by rw [(wf_node HFK.o).hone (by simp)];omega
     have hl1i:(0:Int) < (kids1.length:Int):=by omega
     obtain ⟨b3,o3,k3,rfl,hk3m,hk30,hk3a,hk3o⟩:=HOK.o.kids.head hl1;obtain ⟨r3,hr3⟩:=trees_head hk30;have hk3g:k00.tree.kids.getD 0 .nil=k3.tree:=by
      rw [K00.o]
      show ((MRe.trees kids1).getD 0 .nil)=_
      rw [hr3];rfl
     have hk3w:=wf_kid HFK.o hk3m;have hk3b:=(kids_bulk HBKK.o).2.2 _ hk3m;have ho3:k3.tree.op=1:=by rw [hr3] at a1;exact a1
     have hk3n:NodeOK k3.tree.op k3.tree.set k3.tree.kids.length k3.tree.mn k3.tree.mx k3.tree.mode k3.tree.n k3.tree.neg:=by
      cases hq:k3.tree with
      | node o s k a b c d e=> rw [hq] at hk3w;exact hk3w.node
     have hap:apartP k3.tree (MRe.tree (.node 2 none 0 [] RA RC (kids.drop (k + 1)) 0 0 0 0 false))=!beginsCat k3.tree.set ((MRe.trees kids).drop (k + 1)):=by
      rw [apart_law ho3 (hk3n.hset ho3).1 HRQ.o,HRT.o];rfl
     have HAP:=fun (W:World) (h:Keeps [] w W)=> rapart_any k3 (.node 2 none 0 [] RA RC (kids.drop (k + 1)) 0 0 0 0 false) W (hk3o.keep h) (HRO.o.keep h) hk3w.q HRQ.o hk3b HRB.o;obtain ⟨q1,hq1⟩:∃ q,q=nullAll ((MRe.trees kids).drop (k + 1)):=⟨_,rfl⟩;obtain ⟨q2,hq2⟩:∃ q,q=beginsCat k3.tree.set ((MRe.trees kids).drop (k + 1)):=⟨_,rfl⟩;rw [←hq2] at hap;simp only [hap] at HAP;simp only [←hq1] at HN;have hcond:(holdK k00.tree && (!nullAll ((MRe.trees kids).drop (k + 1)) && !beginsCat (k00.tree.kids.getD 0 .nil).set ((MRe.trees kids).drop (k + 1))))=(!q1 && !q2):=by rw [←HZZ.o,hk3g,←hq1,←hq2];rfl
     have HCO:=gi hcond;obtain ⟨op3,sa3,sc3,set3,ka3,kc3,kids3,mn3,mx3,mode3,n3,neg3⟩:=k3;simp only [MRe.val,List.length_drop,List.length_nil] at HAP;have g:=hk3a.node;obtain ⟨e0,e1,e2,e3,e4,e5,e6,e7⟩:=id g;have d0:=(HKX.o.trans KZ.o).c e0;have d1:=(HKX.o.trans KZ.o).c e1;have d2:=(HKX.o.trans KZ.o).c e2;have d3:=(HKX.o.trans KZ.o).c e3;have d4:=(HKX.o.trans KZ.o).c e4;have d5:=(HKX.o.trans KZ.o).c e5;have d6:=(HKX.o.trans KZ.o).c e6;have d7:=(HKX.o.trans KZ.o).c e7;have HN:=gi HN;have HAP:=gi HAP;obtain ⟨r0,r1,r2,r3,r4,r5,r6,r7⟩:=row_cells HDH.o;clear g e0 e1 e2 e3 e4 e5 e6 e7 hk3m hk30 hk3a hk3o hr3 hk3g hk3w hk3b ho3 hk3n hap hq1 hq2 hcond a1;go_upto_region 7 with fail
     refine rg (S:=fun w'=> (w'.cell? ⟨D,0,none⟩=some (H J 2)∧w'.cell? ⟨D,1,none⟩=some (M none 0 0)∧w'.cell? ⟨D,2,none⟩=some (M RA (kids.length - (k + 1)) RC)∧w'.cell? ⟨D,3,none⟩=some (H J 0)∧w'.cell? ⟨D,4,none⟩=some (H J 0)∧w'.cell? ⟨D,5,none⟩=some (H J 0)∧w'.cell? ⟨D,6,none⟩=some (H J 0)∧w'.cell? ⟨D,7,none⟩=some (F false))∧w'.cell? ⟨C,2,none⟩=some (M (some ⟨b3,o3,none⟩) kids1.length kc1)∧(w'.cell? ⟨b3,o3,none⟩=some (H J op3)∧w'.cell? ⟨b3,o3 + 1,none⟩=some (M sa3 set3.length sc3)∧w'.cell? ⟨b3,o3 + 2,none⟩=some (M ka3 kids3.length kc3)∧w'.cell? ⟨b3,o3 + 3,none⟩=some (H J mn3)∧w'.cell? ⟨b3,o3 + 4,none⟩=some (H J mx3)∧w'.cell? ⟨b3,o3 + 5,none⟩=some (H J mode3)∧w'.cell? ⟨b3,o3 + 6,none⟩=some (H J n3)∧w'.cell? ⟨b3,o3 + 7,none⟩=some (F neg3))) (fun _ k=> ⟨⟨k.c r0,k.c r1,k.c r2,k.c r3,k.c r4,k.c r5,k.c r6,k.c r7⟩,k.c p2,⟨k.c d0,k.c d1,k.c d2,k.c d3,k.c d4,k.c d5,k.c d6,k.c d7⟩⟩) fun kz hHeld=> ?_;refine tk 0 ?_;refine j6 1 fun K hK=> ?_;go_simp
     go_at_call 52
     refine Calls.mono (HN.o _ ((HKX.o.trans KZ.o).drew)) ?_;rintro e w3 ⟨rfl,hk3⟩;have K3:=gi (((Keeps.refl [] Z).drew).trans hk3);clear hk3;refine hK.out _ _ (kz.o _ K3.o) fun hHeld=> ?_;clear hK K;try go_frame
     refine tk 2 ?_;refine tk 3 ?_
     cases q1 with
     | true=>
      refine tf 4 ?_;refine tf 5 ?_;refine tf 6 ?_;refine tf 7 ?_;refine tf 8 ?_;refine branch_off (i:=9) rfl (by kernel_rfl) (by rfl) (by assumption) ?_;try go_frame
      refine tk 10 ?_;refine wd ?_;have hst:=holdO_step HD.o rfl (by rw [HCO.o];rfl) HL.o;have HST:=gi hst;have KR:=gi (KZ.o.trans K3.o);clear hst r0 r1 r2 r3 r4 r5 r6 r7 d0 d1 d2 d3 d4 d5 d6 d7 p0 p1 p2 p3 p4 p5 p6 p7 s0 s1 s2 s3 s4 s5 s6 s7 hHeld;go_wp2;go_roundw
      case rel=> exact ⟨k + 1,by omega,by go_num,HST.o,KR.o⟩
      case measure=> simp [intOf];omega
     | false=>
      refine tk 4 ?_;refine tk 5 ?_;refine tk 6 ?_;refine tk 7 ?_;refine tk 8 ?_;refine j6 9 fun K hK=> ?_;go_simp
      go_at_call 97
      refine Calls.mono (HAP.o _ ((HKX.o.trans KZ.o).trans K3.o)) ?_;rintro e w4 ⟨rfl,hk4⟩;have K4:=gi (K3.o.trans hk4);clear hk4;refine hK.out _ _ (kz.o _ K4.o) fun hHeld=> ?_;clear hK K;try go_frame
      refine tk 10 ?_;refine wd ?_;have KR:=gi (KZ.o.trans K4.o);obtain ⟨t0,t1,t2,t3,t4,t5,t6,t7⟩:=K4.o.c8 s0 s1 s2 s3 s4 s5 s6 s7;have HC4:=gi (K4.o.h HCZ.o);clear r0 r1 r2 r3 r4 r5 r6 r7 d0 d1 d2 d3 d4 d5 d6 d7 p0 p1 p2 p3 p4 p5 p6 p7 s0 s1 s2 s3 s4 s5 s6 s7 hHeld
      cases q2 with
      | true=>
       have hst:=holdO_step HD.o rfl (by rw [HCO.o];rfl) HL.o;have HST:=gi hst;clear hst t0 t1 t2 t3 t4 t5 t6 t7;go_wp2;go_roundw
       case rel=> exact ⟨k + 1,by omega,by go_num,HST.o,KR.o⟩
       case measure=> simp [intOf];omega
      | false=>
       have hO:=holdO_at HD.o (by rw [HCO.o];rfl) HL.o;have HR:=gi (show R=some (swapT 2 (MRe.trees kids) k (k + 1) [heldT k00.tree]) by rw [HR0.o,hO,Option.map_some,HGK.o]);obtain ⟨p0,p1,p2,p3,p4,p5,p6,p7⟩:=row_cells HC4.o;have pf:=row_frozen HC4.o;clear hO;go_upto_region 9 with fail
       obtain ⟨V,hVe⟩:∃ V,V=w4.setCell ⟨C,5,none⟩ (H J 2):=⟨_,rfl⟩;have hkV:Keeps [C] w4 V:=by rw [hVe];exact (Keeps.refl [C] w4).setCell (p:=⟨C,5,none⟩) (.inl (by simp)) _
       have hVC:V.heap[C]? =some (.cells #[H J 4,M sa1 set1.length sc1,M (some ⟨b3,o3,none⟩) kids1.length kc1,H J mn1,H J mx1,H J 2,H J n1,F neg1] 26 (0,0)):=by rw [hVe];exact heap_setCell_same _ C 5 _ _ _ HC4.o
       rw [←hVe];obtain ⟨a0,a1,a2,a3,a4,a5,a6,a7⟩:=row_cells hVC;have hCB:=HCB.o;have c0:=hkV.cell t0 (by simp;omega);have c1:=hkV.cell t1 (by simp;omega);have c2:=hkV.cell t2 (by simp;omega);have c3:=hkV.cell t3 (by simp;omega);have c4:=hkV.cell t4 (by simp;omega);have c5:=hkV.cell t5 (by simp;omega);have c6:=hkV.cell t6 (by simp;omega);have c7:=hkV.cell t7 (by simp;omega);have hXV:Keeps [] X V:=(KR.o).after hkV (by intro x hx;simp at hx;subst hx;exact .inr HXC.o);have KV:=gi hXV;have kA:=Keeps.a1 V (.cells #[H J 4,M sa1 set1.length sc1,M (some ⟨b3,o3,none⟩) kids1.length kc1,H J mn1,H J mx1,H J 2,H J n1,F neg1] 26);have KA:=gi kA;have hkin:KidsIn (V.alloc (.cells #[H J 4,M sa1 set1.length sc1,M (some ⟨b3,o3,none⟩) kids1.length kc1,H J mn1,H J mx1,H J 2,H J n1,F neg1] 26)) (some ⟨V.heap.size,0,none⟩) 1 [(.node 4 sa1 sc1 set1 (some ⟨b3,o3,none⟩) kc1 kids1 mn1 mx1 2 n1 neg1)]:=by
        refine ⟨NodesIn.of_block (kids:=[(.node 4 sa1 sc1 set1 (some ⟨b3,o3,none⟩) kc1 kids1 mn1 mx1 2 n1 neg1)]) (heap_alloc_new V _) rfl (by simp [maxLen]),fun x hx=> ?_⟩;simp only [List.mem_cons,List.not_mem_nil,or_false] at hx;subst hx;exact .of (HOK.o.spans.keep ((HKX.o.trans KV.o).trans kA)) (HOK.o.kids.keep ((HKX.o.trans KV.o).trans kA))
       have hs:=HSW.o _ ((HKX.o.trans KV.o).trans kA) k (some ⟨V.heap.size,0,none⟩) (.node 4 sa1 sc1 set1 (some ⟨b3,o3,none⟩) kc1 kids1 mn1 mx1 2 n1 neg1) hkin (by omega) (by show k + 1≤kids.length;omega) (by show 0 < kids.length;omega) (by show kids.length + 1≤1000000;omega);rw [show ((k + 1:Nat):Int)=(k:Int) + 1 by omega,List.length_singleton] at hs;have HS:=gi hs;clear hs hkin kA hXV hVe hkV hVC t0 t1 t2 t3 t4 t5 t6 t7 p0 p1 p2 p3 p4 p5 p6 p7 pf hCB;go_wp2_with fail
       refine Calls.mono HS.o ?_;rintro e w8 ⟨q,rfl,hqt,hqo,hk8,hqf⟩;have K8:=gi (KV.o.trans (KA.o.trans hk8));have QT:=gi hqt;have QO:=gi hqo;have QF:=gi hqf;obtain ⟨q0,hq0⟩:∃ q0,q0=q:=⟨_,rfl⟩;rw [←hq0] at QT QO QF;have Q0:=gi hq0;clear hqt hqo hk8 hqf hq0 a0 a1 a2 a3 a4 a5 a6 a7 c0 c1 c2 c3 c4 c5 c6 c7;obtain ⟨op9,sa9,sc9,set9,ka9,kc9,kids9,mn9,mx9,mode9,n9,neg9⟩:=q;simp only [MRe.val];obtain ⟨z0,z1,z2,z3,z4,z5,z6,z7,zf⟩:=zero_cells (K8.o.h HZ.o);go_wp2;have hfr:From (B + 2) (MRe.node 2 sa sc set (some ⟨b,off,none⟩) kc kids mn mx mode n neg).blocks (.node op9 sa9 sc9 set9 ka9 kc9 kids9 mn9 mx9 mode9 n9 neg9:MRe).blocks:=by
        rw [←Q0.o];exact swap_from QF.o (fun x h=> .inl (HBL.o x (by simp only [MRe.blocksL,List.append_nil] at h;exact h))) (Nat.le_trans HXS.o (KV.o.trans KA.o).size)
       obtain ⟨hR,hok,hke,hfr2⟩:=rule_store HBE.o HKX.o K8.o HZ.o (by rw [←Q0.o];exact QO.o) hfr HLT.o;refine rt hR ?_;exact RulePost.of_some (.node op9 sa9 sc9 set9 ka9 kc9 kids9 mn9 mx9 mode9 n9 neg9) (by rw [HR.o,←Q0.o,QT.o,HREP.o,K00.o];rfl) rfl hok hke hfr2
  ·have hltI:¬ (k:Int) + 1 < (kids.length:Int):=by omega
   have h0:holdO (MRe.trees kids)=none:=by rw [←HL.o,holdO_short (by rw [List.length_drop,MRe.trees_length];omega)];rfl
   have HR:=gi (show R=none by rw [HR0.o,h0];rfl);clear h0;obtain ⟨z0,z1,z2,z3,z4,z5,z6,z7,zf,HR2,HK2⟩:=nn HBE.o HKX.o HKP.o HZ.o;go_wp2;refine rt HR2.o ?_;exact RulePost.of_none HR.o rfl HK2.o
end Go.Proofs.YtjnlkjlbejelgaaGreat
