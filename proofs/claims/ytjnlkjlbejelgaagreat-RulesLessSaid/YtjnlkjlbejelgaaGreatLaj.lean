/- Part 10 of the proof. No condition: every lemma says its own. -/
import Derived.Test.YtjnlkjlbejelgaaGreatLai
namespace Go.Proofs.YtjnlkjlbejelgaaGreat
open Go.RowKit
open Go.Value renaming int→H,slice→M,bool→F
open Go.IntKind renaming i64→J
set_option maxRecDepth 100000
set_option maxHeartbeats 16000000
def holdK (k:Tree):Bool:=k.op==4 && (k.mode==0 && (k.mn !=k.mx && (k.kids.getD 0 .nil).op==1))
def holdO:List Tree→Option Nat
 | []=> none
 | k::ks=> if (holdK k && (!nullAll ks && !beginsCat (k.kids.getD 0 .nil).set ks))=true then some 0 else (holdO ks).map (· + 1)
def heldT:Tree→Tree
 | .node op set kids mn mx _ n neg=> .node op set kids mn mx 2 n neg
def holdR:Tree→Option Tree
 | .node op _ kids _ _ _ _ _=> if op=2 then (holdO kids).map fun i=> swapT 2 kids i (i + 1) [heldT (kids.getD i .nil)] else none
theorem holdO_step {l:List Tree} {k:Nat} {x:Tree} {r:List Tree} {o:Option Nat} (hd:l.drop k=x::r) (hr:r=l.drop (k + 1)) (hn:(holdK x && (!nullAll r && !beginsCat (x.kids.getD 0 .nil).set r))=false) (h:(holdO (l.drop k)).map (· + k)=o):(holdO (l.drop (k + 1))).map (· + (k + 1))=o:=by
 rw [hd,holdO,if_neg (by rw [hn];simp)] at h;rw [←hr,←h]
 cases holdO r with
 | none=> rfl
 | some i=> simp;omega
theorem holdO_at {l:List Tree} {k:Nat} {x:Tree} {r:List Tree} {o:Option Nat} (hd:l.drop k=x::r) (hn:(holdK x && (!nullAll r && !beginsCat (x.kids.getD 0 .nil).set r))=true) (h:(holdO (l.drop k)).map (· + k)=o):o=some k:=by
 rw [hd,holdO,if_pos hn] at h;rw [←h];simp
theorem row_cells {w:World} {g T:Nat} {v0 v1 v2 v3 v4 v5 v6 v7:Value} (h:w.heap[g]? =some (.cells #[v0,v1,v2,v3,v4,v5,v6,v7] T (0,0))):
  w.cell? ⟨g,0,none⟩=some v0∧w.cell? ⟨g,1,none⟩=some v1∧w.cell? ⟨g,2,none⟩=some v2∧w.cell? ⟨g,3,none⟩=some v3∧w.cell? ⟨g,4,none⟩=some v4∧w.cell? ⟨g,5,none⟩=some v5∧w.cell? ⟨g,6,none⟩=some v6∧w.cell? ⟨g,7,none⟩=some v7:=by
 simp [World.cell?,h]
theorem row_frozen {w:World} {g T:Nat} {cs:Array Value} (h:w.heap[g]? =some (.cells cs T (0,0))) (o:Nat):w.frozen? ⟨g,o,none⟩=false:=by
 simp [World.frozen?,h]
theorem pre1 (w:World) (op:Int) (sa:Option Addr) (sc:Nat) (set:List (Int × Int)) (ka:Option Addr) (kc:Nat) (kids:List MRe) (mn mx mode n:Int) (neg:Bool):∃ (B:Nat) (Y:World),Y.cell? ⟨B,0,none⟩=some (H J op)∧Y.cell? ⟨B,1,none⟩=some (M sa set.length sc)∧Y.cell? ⟨B,2,none⟩=some (M ka kids.length kc)∧Y.cell? ⟨B,3,none⟩=some (H J mn)∧Y.cell? ⟨B,4,none⟩=some (H J mx)∧Y.cell? ⟨B,5,none⟩=some (H J mode)∧Y.cell? ⟨B,6,none⟩=some (H J n)∧Y.cell? ⟨B,7,none⟩=some (F neg)∧Hd (Y=w.alloc (.cells #[H J op,M sa set.length sc,M ka kids.length kc,H J mn,H J mx,H J mode,H J n,F neg] 26))∧Hd (B=w.heap.size)∧Hd (Keeps [] w Y):=by
 obtain ⟨c0,c1,c2,c3,c4,c5,c6,c7⟩:=row_cells (heap_alloc_new w (.cells #[H J op,M sa set.length sc,M ka kids.length kc,H J mn,H J mx,H J mode,H J n,F neg] 26));exact ⟨_,_,c0,c1,c2,c3,c4,c5,c6,c7,⟨rfl⟩,⟨rfl⟩,⟨Keeps.a1 _ _⟩⟩
theorem pre2 (w:World) (op1:Int) (sa1:Option Addr) (sc1:Nat) (set1:List (Int × Int)) (ka1:Option Addr) (kc1:Nat) (kids1:List MRe) (mn1 mx1 mode1 n1:Int) (neg1:Bool) (op2:Int) (sa2:Option Addr) (sc2:Nat) (set2:List (Int × Int)) (ka2:Option Addr) (kc2:Nat) (kids2:List MRe) (mn2 mx2 mode2 n2:Int) (neg2:Bool):∃ (B:Nat) (Y:World),Y.cell? ⟨B,0,none⟩=some (H J op1)∧Y.cell? ⟨B,1,none⟩=some (M sa1 set1.length sc1)∧Y.cell? ⟨B,2,none⟩=some (M ka1 kids1.length kc1)∧Y.cell? ⟨B,3,none⟩=some (H J mn1)∧Y.cell? ⟨B,4,none⟩=some (H J mx1)∧Y.cell? ⟨B,5,none⟩=some (H J mode1)∧Y.cell? ⟨B,6,none⟩=some (H J n1)∧Y.cell? ⟨B,7,none⟩=some (F neg1)∧Y.cell? ⟨B + 1,0,none⟩=some (H J op2)∧Y.cell? ⟨B + 1,1,none⟩=some (M sa2 set2.length sc2)∧Y.cell? ⟨B + 1,2,none⟩=some (M ka2 kids2.length kc2)∧Y.cell? ⟨B + 1,3,none⟩=some (H J mn2)∧Y.cell? ⟨B + 1,4,none⟩=some (H J mx2)∧Y.cell? ⟨B + 1,5,none⟩=some (H J mode2)∧Y.cell? ⟨B + 1,6,none⟩=some (H J n2)∧Y.cell? ⟨B + 1,7,none⟩=some (F neg2)∧Hd (Y=(w.alloc (.cells #[H J op1,M sa1 set1.length sc1,M ka1 kids1.length kc1,H J mn1,H J mx1,H J mode1,H J n1,F neg1] 26)).alloc (.cells #[H J op2,M sa2 set2.length sc2,M ka2 kids2.length kc2,H J mn2,H J mx2,H J mode2,H J n2,F neg2] 26))∧Hd (B=w.heap.size)∧Hd (Keeps [] w Y):=by
 obtain ⟨c0,c1,c2,c3,c4,c5,c6,c7⟩:=row_cells ((Keeps.a1 (w.alloc (.cells #[H J op1,M sa1 set1.length sc1,M ka1 kids1.length kc1,H J mn1,H J mx1,H J mode1,H J n1,F neg1] 26)) (.cells #[H J op2,M sa2 set2.length sc2,M ka2 kids2.length kc2,H J mn2,H J mx2,H J mode2,H J n2,F neg2] 26)).heap (heap_alloc_new w _) (by simp));obtain ⟨d0,d1,d2,d3,d4,d5,d6,d7⟩:=row_cells (heap_alloc2_new w (.cells #[H J op1,M sa1 set1.length sc1,M ka1 kids1.length kc1,H J mn1,H J mx1,H J mode1,H J n1,F neg1] 26) (.cells #[H J op2,M sa2 set2.length sc2,M ka2 kids2.length kc2,H J mn2,H J mx2,H J mode2,H J n2,F neg2] 26));exact ⟨_,_,c0,c1,c2,c3,c4,c5,c6,c7,d0,d1,d2,d3,d4,d5,d6,d7,⟨rfl⟩,⟨rfl⟩,⟨Keeps.a2 _ _ _⟩⟩
theorem rule_store {w X W:World} {B T:Nat} {src:List Nat} {op sa sc set ka kc kids mn mx mode n neg} (hB:B=w.heap.size) (kX:Keeps [] w X) (kW:Keeps [] X W) (hz:X.heap[B + 1]? =some (.cells #[H J 0,M none 0 0,M none 0 0,H J 0,H J 0,H J 0,H J 0,F false] T (0,0)))
  (qo:MRe.OK W (.node op sa sc set ka kc kids mn mx mode n neg)) (qf:From (B + 2) src (MRe.node op sa sc set ka kc kids mn mx mode n neg).blocks) (hlt:∀ b∈src,b < w.heap.size):
  (set8 W (B + 1) (H J op) (M sa set.length sc) (M ka kids.length kc) (H J mn) (H J mx) (H J mode) (H J n) (F neg)).heap[B + 1]? =some (.cells #[H J op,M sa set.length sc,M ka kids.length kc,H J mn,H J mx,H J mode,H J n,F neg] T (0,0))∧
  MRe.OK (set8 W (B + 1) (H J op) (M sa set.length sc) (M ka kids.length kc) (H J mn) (H J mx) (H J mode) (H J n) (F neg)) (.node op sa sc set ka kc kids mn mx mode n neg)∧
  Keeps [] w (set8 W (B + 1) (H J op) (M sa set.length sc) (M ka kids.length kc) (H J mn) (H J mx) (H J mode) (H J n) (F neg))∧
  From w.heap.size src (MRe.node op sa sc set ka kc kids mn mx mode n neg).blocks:=by
 have hk8:=set8_keeps W (B + 1) (H J op) (M sa set.length sc) (M ka kids.length kc) (H J mn) (H J mx) (H J mode) (H J n) (F neg);refine ⟨set8_heap (kW.h hz) _ _ _ _ _ _ _ _,qo.keepS hk8 fun b hb=> ?_,(kX.trans kW).after hk8 (by intro x hx;simp at hx;subst hx;exact .inr (by omega)),fun b hb=> ?_⟩
 ·rcases qf b hb with h | h
  ·have:=hlt b h;simp;omega
  ·simp;omega
 ·rcases qf b hb with h | h
  ·exact .inl h
  ·exact .inr (by omega)
theorem hold_any (m:MRe) (w:World) (k1:m.OK w) (f1:m.tree.WF) (hb:m.tree.bulk≤100000):
  Calls Tryz.prog 89 #[m.val] w (RulePost w m.blocks (holdR m.tree)):=by
 have hswap:=fun (W:World) (h:Keeps [] w W) (i:Nat) (la:Option Addr) (l:MRe)=> swap_any m i (i + 1) la 1 [l] W (k1.keep h);obtain ⟨op,sa,sc,set,ka,kc,kids,mn,mx,mode,n,neg⟩:=m;have hbk:=(kids_bulk hb).1;have hno:=wf_node f1;obtain ⟨B,X,HBE,HXE,HC,HZ,hsz,HKX⟩:=pre0 w op sa sc set ka kc kids mn mx mode n neg;have HK0:=gi (Keeps.refl [] X);have HXS:=gi hsz;have HSW:=gi hswap;have HLT:=gi k1.block_lt;have hT:holdR (MRe.tree (.node op sa sc set ka kc kids mn mx mode n neg))=holdR (.node op set (MRe.trees kids) mn mx mode n neg):=rfl;rw [hT];simp only [MRe.val];clear hT hb hswap
 by_cases h2:op=2
 ·subst h2;have hlen:=hno.htwo (by simp);have hR:holdR (.node 2 set (MRe.trees kids) mn mx mode n neg)=(holdO (MRe.trees kids)).map fun i=> swapT 2 (MRe.trees kids) i (i + 1) [heldT ((MRe.trees kids).getD i .nil)]:=by rw [holdR,if_pos rfl]
  have HRR:=gi hR;obtain ⟨b,off,rfl,hbb,hx⟩:=k1.nodes.kid (by omega);have hcap:=k1.nodes.cap;have hle:=k1.nodes.le;unfold maxLen at hcap;have HX:=gi hx;have HK1:=gi k1;have HF1:=gi f1;clear hR hx k1 f1 hno hbb;obtain ⟨c0,c1,c2,c3,c4,c5,c6,c7⟩:=HC.o.cells0;go_enter Tryz.func89,Tryz.ntmps89
  go_upto_region 1 with fail
  rw [←HXE.o,←HBE.o];go_wp2
  go_loopw [14] (fun i wr=> ∃ k:Nat,k≤kids.length∧i=H J k∧(holdO ((MRe.trees kids).drop k)).map (· + k)=holdO (MRe.trees kids)∧Keeps [] X wr) (fun i _=> kids.length - (intOf i).toNat)
  case atStart=> exact ⟨0,Nat.zero_le _,rfl,by rw [List.drop_zero];cases holdO (MRe.trees kids) <;> rfl,Keeps.refl _ _⟩
  case round=>
   obtain ⟨k,hk,rfl,hl,hkp⟩:=hrel;have HL:=gi hl;have HKP:=gi hkp;obtain ⟨t0,t1,t2,t3,t4,t5,t6,t7⟩:=hkp.c8 c0 c1 c2 c3 c4 c5 c6 c7;clear hl hkp c0 c1 c2 c3 c4 c5 c6 c7
   by_cases hlt:k < kids.length
   ·have hd:=trees_drop kids k hlt;have HD:=gi hd;have hak:=HX.o k hlt;have hok:=HK1.o.kid (List.getElem_mem hlt);have hfk:=wf_kid HF1.o (List.getElem_mem hlt);have hbl:=blocks_kid (op:=2) (sa:=sa) (sc:=sc) (set:=set) (ka:=some ⟨b,off,none⟩) (kc:=kc) (mn:=mn) (mx:=mx) (mode:=mode) (n:=n) (neg:=neg) (List.getElem_mem hlt);have hgk:(MRe.trees kids).getD k .nil=kids[k].tree:=by rw [List.getD_eq_getElem?_getD,List.getElem?_eq_getElem (by rw [MRe.trees_length];omega),Option.getD_some,trees_getElem]
    obtain ⟨k0,hk0⟩:∃ k0,k0=kids[k]:=⟨_,rfl⟩;rw [←hk0] at hak hok hfk hbl hgk hd;have HD:=gi hd;have HOK:=gi hok;have HFK:=gi hfk;have HBL:=gi hbl;have HGK:=gi hgk;obtain ⟨k00,hk00⟩:∃ k00,k00=k0:=⟨_,rfl⟩;have K00:=gi hk00;rw [←hk00] at HD HGK;clear hk0 hd hok hfk hbl hgk hk00;obtain ⟨op1,sa1,sc1,set1,ka1,kc1,kids1,mn1,mx1,mode1,n1,neg1⟩:=k0;have g:=hak.node;obtain ⟨e0,e1,e2,e3,e4,e5,e6,e7⟩:=id g;have d0:=(HKX.o.trans HKP.o).c e0;have d1:=(HKX.o.trans HKP.o).c e1;have d2:=(HKX.o.trans HKP.o).c e2;have d3:=(HKX.o.trans HKP.o).c e3;have d4:=(HKX.o.trans HKP.o).c e4;have d5:=(HKX.o.trans HKP.o).c e5;have d6:=(HKX.o.trans HKP.o).c e6;have d7:=(HKX.o.trans HKP.o).c e7;clear g e0 e1 e2 e3 e4 e5 e6 e7 hak;go_upto_region 6 with fail
    obtain ⟨C,hCe⟩:∃ C,C=wr.heap.size:=⟨_,rfl⟩;obtain ⟨Y,hYe⟩:∃ Y,Y=wr.alloc (.cells #[H J op1,M sa1 set1.length sc1,M ka1 kids1.length kc1,H J mn1,H J mx1,H J mode1,H J n1,F neg1] 26):=⟨_,rfl⟩;have hkY:Keeps [] wr Y:=by rw [hYe];exact Keeps.a1 _ _
    have hCH:Y.heap[C]? =some (.cells #[H J op1,M sa1 set1.length sc1,M ka1 kids1.length kc1,H J mn1,H J mx1,H J mode1,H J n1,F neg1] 26 (0,0)):=by rw [hYe,hCe];exact heap_alloc_new wr _
    rw [←hYe,←hCe];have hXC:X.heap.size≤C:=by rw [hCe];exact HKP.o.size
    have hCB:B + 2≤C:=Nat.le_trans hsz hXC;have HXC:=gi hXC;clear hXC;have KY:=gi (HKP.o.trans hkY);obtain ⟨y0,y1,y2,y3,y4,y5,y6,y7⟩:=hkY.c8 t0 t1 t2 t3 t4 t5 t6 t7;obtain ⟨p0,p1,p2,p3,p4,p5,p6,p7⟩:=(At8.of_block (m:=.node op1 sa1 sc1 set1 ka1 kc1 kids1 mn1 mx1 mode1 n1 neg1) hCH rfl).cells0;have HCH:=gi hCH;clear hCe hYe hkY hCH t0 t1 t2 t3 t4 t5 t6 t7 d0 d1 d2 d3 d4 d5 d6 d7;have hHK:holdK k00.tree=(op1==4 && (mode1==0 && (mn1 !=mx1 && ((MRe.trees kids1).getD 0 .nil).op==1))):=by rw [K00.o];rfl
    have HHK:=gi hHK;obtain ⟨z,hz⟩:∃ z,z=holdK k00.tree:=⟨_,rfl⟩;rw [←hz] at hHK;have HZZ:=gi hz;clear hz
    go_cut [41] (fun s41 wx=> s41=F (!z)∧Y=wx)
    case first=>
     by_cases a4:op1=4
     ·subst a4
      by_cases a0:mode1=0
      ·subst a0
       by_cases ae:mn1=mx1
       ·subst ae;obtain rfl:z=false:=by rw [hHK];simp
        clear hHK;go_wp2;go_meet;exact ⟨rfl,rfl⟩
       ·have hl1:0 < kids1.length:=by rw [(wf_node HFK.o).hone (by simp)];omega
        have hl1i:(0:Int) < (kids1.length:Int):=by omega
        obtain ⟨b3,o3,k3,rfl,hk3m,hk30,hk3a,hk3o⟩:=HOK.o.kids.head hl1;obtain ⟨r3,hr3⟩:=trees_head hk30;rw [hr3] at hHK;have hz3:z=(k3.tree.op==1):=by rw [hHK];simp [ae]
        have hae:(mn1==mx1)=false:=by simpa using ae
        obtain ⟨op3,sa3,sc3,set3,ka3,kc3,kids3,mn3,mx3,mode3,n3,neg3⟩:=k3;have x0:=(HKX.o.trans KY.o).cell hk3a.node.c0 (by simp);have hz4:z=(op3==1):=hz3;clear hHK hz3 hr3 hk3m hk30 hk3a hk3o
        by_cases a1:op3=1
        ·subst a1;obtain rfl:z=true:=by rw [hz4];rfl
         clear hz4;go_wp2;go_meet;exact ⟨rfl,rfl⟩
        ·have ha1:(op3 !=1)=true:=by simpa using a1
         obtain rfl:z=false:=by rw [hz4];simpa using a1
         clear hz4;go_wp2;go_meet;exact ⟨rfl,rfl⟩
      ·have ha0:(mode1 !=0)=true:=by simpa using a0
       obtain rfl:z=false:=by rw [hHK];simp [a0]
       clear hHK;go_wp2;go_meet;exact ⟨rfl,rfl⟩
     ·have ha4:(op1 !=4)=true:=by simpa using a4
      obtain rfl:z=false:=by rw [hHK];simp [a4]
      clear hHK;go_wp2;go_meet;exact ⟨rfl,rfl⟩
    case rest=>
     obtain ⟨rfl,rfl⟩:=hcut;clear hHK
     cases z with
     | false=>
      have hst:=holdO_step HD.o rfl (by rw [←HZZ.o];rfl) HL.o;have HST:=gi hst;clear hst;go_wp2;go_roundw
      case rel=> exact ⟨k + 1,by omega,by go_num,HST.o,KY.o⟩
      case measure=> simp [intOf];omega
     | true=>
      have hh:op1=4∧mode1=0∧mn1≠mx1∧((MRe.trees kids1).getD 0 .nil).op=1:=by
       have:=HHK.o
       rw [←HZZ.o] at this
       simpa using this.symm
      obtain ⟨rfl,rfl,ae,a1⟩:=hh;have hl1:0 < kids1.length:=by rw [(wf_node HFK.o).hone (by simp)];omega
      have hl1i:(0:Int) < (kids1.length:Int):=by omega
      obtain ⟨b3,o3,k3,rfl,hk3m,hk30,hk3a,hk3o⟩:=HOK.o.kids.head hl1;obtain ⟨r3,hr3⟩:=trees_head hk30;have hset0:(k00.tree.kids.getD 0 .nil).set=k3.tree.set:=by
       rw [K00.o]
       show ((MRe.trees kids1).getD 0 .nil).set=_
       rw [hr3];rfl
      obtain ⟨op3,sa3,sc3,set3,ka3,kc3,kids3,mn3,mx3,mode3,n3,neg3⟩:=k3;have hset:(k00.tree.kids.getD 0 .nil).set=set3:=hset0;have hx1:=hk3a.node.c1;have hsp:=hk3o.spans;have hdn:=HK1.o.nodes.drop (k + 1) (by omega);obtain ⟨RA,hRA⟩:∃ RA,RA=(if kc=k + 1 then some (⟨b,off,none⟩:Addr) else some ⟨b,off + (k + 1) * 8,none⟩):=⟨_,rfl⟩;obtain ⟨RC,hRC⟩:∃ RC,RC=kc - (k + 1):=⟨_,rfl⟩;have hsl:∀ W:World,(Instr.sliceAt 24 (M (some ⟨b,off,none⟩) kids.length kc) (some (H J ((k:Int) + 1))) none none).run Tryz.prog W=.ok (M RA (kids.length - (k + 1)) RC) W:=by
       intro W;have q1:(k:Int) + 1≤kids.length:=by omega
       have q0:(0:Int)≤(k:Int) + 1:=by omega
       have q3:((k:Int) + 1).toNat=k + 1:=by omega
       rw [hRA,hRC]
       by_cases q2:kc=k + 1
       ·simp [go_sem,q1,q0,q3,q2]
       ·simp [go_sem,q1,q0,q3,q2]
      rw [←hRA,←hRC] at hdn;have hro:MRe.OK w (.node 2 none 0 [] RA RC (kids.drop (k + 1)) 0 0 0 0 false):=.of (SpansIn.nil _) ⟨hdn,fun x hx=> HK1.o.kid (List.mem_of_mem_drop hx)⟩;have HN:=fun (W:World) (h:Keeps [] w W)=> null_any (.node 2 none 0 [] RA RC (kids.drop (k + 1)) 0 0 0 0 false) W (hro.keep h);have HBG:=fun (W:World) (h:Keeps [] w W)=> begins_any sa3 sc3 set3 (.node 2 none 0 [] RA RC (kids.drop (k + 1)) 0 0 0 0 false) W (hro.keep h) (hsp.keep h);have hn1:nullP (MRe.tree (.node 2 none 0 [] RA RC (kids.drop (k + 1)) 0 0 0 0 false))=nullAll ((MRe.trees kids).drop (k + 1)):=by
       rw [MRe.trees_eq,←List.map_drop,←MRe.trees_eq];rfl
      have hn2:beginsT set3 (MRe.tree (.node 2 none 0 [] RA RC (kids.drop (k + 1)) 0 0 0 0 false))=beginsCat set3 ((MRe.trees kids).drop (k + 1)):=by
       rw [MRe.trees_eq,←List.map_drop,←MRe.trees_eq];rfl
      simp only [hn1,MRe.val,List.length_drop,List.length_nil] at HN;simp only [hn2,MRe.val,List.length_drop,List.length_nil] at HBG;obtain ⟨q1,hq1⟩:∃ q,q=nullAll ((MRe.trees kids).drop (k + 1)):=⟨_,rfl⟩;obtain ⟨q2,hq2⟩:∃ q,q=beginsCat set3 ((MRe.trees kids).drop (k + 1)):=⟨_,rfl⟩;simp only [←hq1] at HN;simp only [←hq2] at HBG;have hcond:(holdK k00.tree && (!nullAll ((MRe.trees kids).drop (k + 1)) && !beginsCat (k00.tree.kids.getD 0 .nil).set ((MRe.trees kids).drop (k + 1))))=(!q1 && !q2):=by rw [←HZZ.o,hset,←hq1,←hq2];rfl
      have HCO:=gi hcond;have HN:=gi HN;have HBG:=gi HBG;have x1:=(HKX.o.trans KY.o).c hx1;have hw1:IntKind.i64.wrap ((k:Int) + 1)=(k:Int) + 1:=IntWalk.i64_in _ (by omega);clear hset hset0 hx1 hsp hdn hRA hRC hro hn1 hn2 hq1 hq2 hcond hr3 hk3m hk30 hk3a hk3o a1 ae;go_upto_region 8 with fail
      obtain ⟨D,hDe⟩:∃ D,D=Y.heap.size:=⟨_,rfl⟩;obtain ⟨Z,hZe⟩:∃ Z,Z=Y.alloc (.cells #[H J 2,M none 0 0,M RA (kids.length - (k + 1)) RC,H J 0,H J 0,H J 0,H J 0,F false] 26):=⟨_,rfl⟩;have hkZ:Keeps [] Y Z:=by rw [hZe];exact Keeps.a1 _ _
      have hDH:Z.heap[D]? =some (.cells #[H J 2,M none 0 0,M RA (kids.length - (k + 1)) RC,H J 0,H J 0,H J 0,H J 0,F false] 26 (0,0)):=by rw [hZe,hDe];exact heap_alloc_new Y _
      rw [←hZe,←hDe];have KZ:=gi (KY.o.trans hkZ);obtain ⟨r0,r1,r2,r3,r4,r5,r6,r7⟩:=row_cells hDH;have v2:=hkZ.c p2;have x2:=hkZ.c x1;obtain ⟨s0,s1,s2,s3,s4,s5,s6,s7⟩:=hkZ.c8 y0 y1 y2 y3 y4 y5 y6 y7;have HCZ:=gi (hkZ.h HCH.o);clear hDe hZe hkZ hDH p0 p1 p2 p3 p4 p5 p6 p7 y0 y1 y2 y3 y4 y5 y6 y7 x1;refine rg (S:=fun w'=> (w'.cell? ⟨D,0,none⟩=some (H J 2)∧w'.cell? ⟨D,1,none⟩=some (M none 0 0)∧w'.cell? ⟨D,2,none⟩=some (M RA (kids.length - (k + 1)) RC)∧w'.cell? ⟨D,3,none⟩=some (H J 0)∧w'.cell? ⟨D,4,none⟩=some (H J 0)∧w'.cell? ⟨D,5,none⟩=some (H J 0)∧w'.cell? ⟨D,6,none⟩=some (H J 0)∧w'.cell? ⟨D,7,none⟩=some (F false))∧w'.cell? ⟨C,2,none⟩=some (M (some ⟨b3,o3,none⟩) kids1.length kc1)∧w'.cell? ⟨b3,o3 + 1,none⟩=some (M sa3 set3.length sc3)) (fun _ k=> ⟨⟨k.c r0,k.c r1,k.c r2,k.c r3,k.c r4,k.c r5,k.c r6,k.c r7⟩,k.c v2,k.c x2⟩) fun kz hHeld=> ?_;refine tk 0 ?_;refine j6 1 fun K hK=> ?_;go_simp
      go_at_call 35
      refine Calls.mono (HN.o _ ((HKX.o.trans KZ.o).drew)) ?_;rintro e w3 ⟨rfl,hk3⟩;have K3:=gi (((Keeps.refl [] Z).drew).trans hk3);clear hk3;refine hK.out _ _ (kz.o _ K3.o) fun hHeld=> ?_;clear hK K;try go_frame
      refine tk 2 ?_;refine tk 3 ?_
      cases q1 with
      | true=>
       refine tf 4 ?_;refine tf 5 ?_;refine tf 6 ?_;refine tf 7 ?_;refine tf 8 ?_;refine tf 9 ?_;refine branch_off (i:=10) rfl (by kernel_rfl) (by rfl) (by assumption) ?_;try go_frame
       refine tf 11 ?_;refine tk 12 ?_;refine wd ?_;have hst:=holdO_step HD.o rfl (by rw [HCO.o];rfl) HL.o;have HST:=gi hst;have KR:=gi (KZ.o.trans K3.o);clear hst r0 r1 r2 r3 r4 r5 r6 r7 v2 x2 s0 s1 s2 s3 s4 s5 s6 s7 hHeld;go_wp2;go_roundw
       case rel=> exact ⟨k + 1,by omega,by go_num,HST.o,KR.o⟩
       case measure=> simp [intOf];omega
      | false=>
       refine tk 4 ?_;refine tk 5 ?_;refine tk 6 ?_;refine tk 7 ?_;refine tk 8 ?_;refine tk 9 ?_;refine j6 10 fun K hK=> ?_;go_simp
       go_at_call 130
       refine Calls.mono (HBG.o _ ((HKX.o.trans KZ.o).trans K3.o)) ?_;rintro e w4 ⟨rfl,hk4⟩;have K4:=gi (K3.o.trans hk4);clear hk4;refine hK.out _ _ (kz.o _ K4.o) fun hHeld=> ?_;clear hK K;try go_frame
       refine tk 11 ?_;refine tk 12 ?_;refine wd ?_;have KR:=gi (KZ.o.trans K4.o);obtain ⟨t0,t1,t2,t3,t4,t5,t6,t7⟩:=K4.o.c8 s0 s1 s2 s3 s4 s5 s6 s7;have HC4:=gi (K4.o.h HCZ.o);clear r0 r1 r2 r3 r4 r5 r6 r7 v2 x2 s0 s1 s2 s3 s4 s5 s6 s7 hHeld
       cases q2 with
       | true=>
        have hst:=holdO_step HD.o rfl (by rw [HCO.o];rfl) HL.o;have HST:=gi hst;clear hst t0 t1 t2 t3 t4 t5 t6 t7;go_wp2;go_roundw
        case rel=> exact ⟨k + 1,by omega,by go_num,HST.o,KR.o⟩
        case measure=> simp [intOf];omega
       | false=>
        have hO:=holdO_at HD.o (by rw [HCO.o];rfl) HL.o;have HR:=gi (show holdR (.node 2 set (MRe.trees kids) mn mx mode n neg)=some (swapT 2 (MRe.trees kids) k (k + 1) [heldT k00.tree]) by rw [HRR.o,hO,Option.map_some,HGK.o]);obtain ⟨p0,p1,p2,p3,p4,p5,p6,p7⟩:=row_cells HC4.o;have pf:=row_frozen HC4.o;clear hO;go_upto_region 10 with fail
        obtain ⟨V,hVe⟩:∃ V,V=w4.setCell ⟨C,5,none⟩ (H J 2):=⟨_,rfl⟩;have hkV:Keeps [C] w4 V:=by rw [hVe];exact (Keeps.refl [C] w4).setCell (p:=⟨C,5,none⟩) (.inl (by simp)) _
        have hVC:V.heap[C]? =some (.cells #[H J 4,M sa1 set1.length sc1,M (some ⟨b3,o3,none⟩) kids1.length kc1,H J mn1,H J mx1,H J 2,H J n1,F neg1] 26 (0,0)):=by rw [hVe];exact heap_setCell_same _ C 5 _ _ _ HC4.o
        rw [←hVe];obtain ⟨a0,a1,a2,a3,a4,a5,a6,a7⟩:=row_cells hVC;have c0:=hkV.cell t0 (by simp;omega);have c1:=hkV.cell t1 (by simp;omega);have c2:=hkV.cell t2 (by simp;omega);have c3:=hkV.cell t3 (by simp;omega);have c4:=hkV.cell t4 (by simp;omega);have c5:=hkV.cell t5 (by simp;omega);have c6:=hkV.cell t6 (by simp;omega);have c7:=hkV.cell t7 (by simp;omega);have HCB:=gi hCB;have hXV:Keeps [] X V:=(KR.o).after hkV (by intro x hx;simp at hx;subst hx;exact .inr HXC.o);have KV:=gi hXV;have kA:=Keeps.a1 V (.cells #[H J 4,M sa1 set1.length sc1,M (some ⟨b3,o3,none⟩) kids1.length kc1,H J mn1,H J mx1,H J 2,H J n1,F neg1] 26);have KA:=gi kA;have hkin:KidsIn (V.alloc (.cells #[H J 4,M sa1 set1.length sc1,M (some ⟨b3,o3,none⟩) kids1.length kc1,H J mn1,H J mx1,H J 2,H J n1,F neg1] 26)) (some ⟨V.heap.size,0,none⟩) 1 [(.node 4 sa1 sc1 set1 (some ⟨b3,o3,none⟩) kc1 kids1 mn1 mx1 2 n1 neg1)]:=by
         refine ⟨NodesIn.of_block (kids:=[(.node 4 sa1 sc1 set1 (some ⟨b3,o3,none⟩) kc1 kids1 mn1 mx1 2 n1 neg1)]) (heap_alloc_new V _) rfl (by simp [maxLen]),fun x hx=> ?_⟩;simp only [List.mem_cons,List.not_mem_nil,or_false] at hx;subst hx;exact .of (HOK.o.spans.keep ((HKX.o.trans KV.o).trans kA)) (HOK.o.kids.keep ((HKX.o.trans KV.o).trans kA))
        have hs:=HSW.o _ ((HKX.o.trans KV.o).trans kA) k (some ⟨V.heap.size,0,none⟩) (.node 4 sa1 sc1 set1 (some ⟨b3,o3,none⟩) kc1 kids1 mn1 mx1 2 n1 neg1) hkin (by omega) (by show k + 1≤kids.length;omega) (by show 0 < kids.length;omega) (by show kids.length + 1≤1000000;omega);rw [show ((k + 1:Nat):Int)=(k:Int) + 1 by omega,List.length_singleton] at hs;have HS:=gi hs;clear hs hkin kA hXV hVe hkV hVC t0 t1 t2 t3 t4 t5 t6 t7 p0 p1 p2 p3 p4 p5 p6 p7 pf;go_wp2_with fail
        refine Calls.mono HS.o ?_;rintro e w8 ⟨q,rfl,hqt,hqo,hk8,hqf⟩;have K8:=gi (KV.o.trans (KA.o.trans hk8));have QT:=gi hqt;have QO:=gi hqo;have QF:=gi hqf;obtain ⟨q0,hq0⟩:∃ q0,q0=q:=⟨_,rfl⟩;rw [←hq0] at QT QO QF;have Q0:=gi hq0;clear hqt hqo hk8 hqf hq0 a0 a1 a2 a3 a4 a5 a6 a7 c0 c1 c2 c3 c4 c5 c6 c7;obtain ⟨op9,sa9,sc9,set9,ka9,kc9,kids9,mn9,mx9,mode9,n9,neg9⟩:=q;simp only [MRe.val];obtain ⟨z0,z1,z2,z3,z4,z5,z6,z7,zf⟩:=zero_cells (K8.o.h HZ.o);go_wp2;have hfr:From (B + 2) (MRe.node 2 sa sc set (some ⟨b,off,none⟩) kc kids mn mx mode n neg).blocks (.node op9 sa9 sc9 set9 ka9 kc9 kids9 mn9 mx9 mode9 n9 neg9:MRe).blocks:=by
         rw [←Q0.o];intro x hx
         rcases QF.o x hx with h | h
         ·rcases List.mem_append.1 h with h | h
          ·exact .inl h
          ·refine .inl (HBL.o x ?_);simp only [MRe.blocksL,List.append_nil] at h;exact h
         ·exact .inr (Nat.le_trans HXS.o (Nat.le_trans (KV.o.trans KA.o).size h))
        obtain ⟨hR,hok,hke,hfr2⟩:=rule_store HBE.o HKX.o K8.o HZ.o (by rw [←Q0.o];exact QO.o) hfr HLT.o;refine rt hR ?_;exact RulePost.of_some (.node op9 sa9 sc9 set9 ka9 kc9 kids9 mn9 mx9 mode9 n9 neg9) (by rw [HR.o,←Q0.o,QT.o,K00.o];rfl) rfl hok hke hfr2
   ·obtain rfl:k=kids.length:=by omega
    have h0:holdO (MRe.trees kids)=none:=by rw [←HL.o,List.drop_of_length_le (by rw [MRe.trees_length];omega)];rfl
    have HR:=gi (show holdR (.node 2 set (MRe.trees kids) mn mx mode n neg)=none by rw [HRR.o,h0];rfl);clear h0;obtain ⟨z0,z1,z2,z3,z4,z5,z6,z7,zf,HR2,HK2⟩:=nn HBE.o HKX.o HKP.o HZ.o;go_wp2;refine rt HR2.o ?_;exact RulePost.of_none HR.o rfl HK2.o
 ·have h2b:(op !=2)=true:=by simpa using h2
  have HR:=gi (show holdR (.node op set (MRe.trees kids) mn mx mode n neg)=none by rw [holdR,if_neg h2]);obtain ⟨c0,c1,c2,c3,c4,c5,c6,c7⟩:=HC.o.cells0;go_enter Tryz.func89,Tryz.ntmps89
  go_upto_region 1 with fail
  rw [←HXE.o,←HBE.o];obtain ⟨z0,z1,z2,z3,z4,z5,z6,z7,zf,HR2,HK2⟩:=nn HBE.o HKX.o HK0.o HZ.o;go_wp2;refine rt HR2.o ?_;exact RulePost.of_none HR.o rfl HK2.o
end Go.Proofs.YtjnlkjlbejelgaaGreat
