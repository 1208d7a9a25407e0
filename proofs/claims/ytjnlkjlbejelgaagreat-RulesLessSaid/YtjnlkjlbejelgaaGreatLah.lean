/- Part 8 of the proof. No condition: every lemma says its own. -/
import Derived.Test.YtjnlkjlbejelgaaGreatLag
namespace Go.Proofs.YtjnlkjlbejelgaaGreat
open Go.RowKit
open Go.Value renaming int→H,slice→M,bool→F
open Go.IntKind renaming i64→J
set_option maxRecDepth 100000
set_option maxHeartbeats 16000000
theorem At8.keepS {S:List Nat} {w w':World} {b o:Nat} {m:MRe} (h:At8 w b o m) (k:Keeps S w w') (hb:b ∉ S):At8 w' b o m:=fun j hj=> k.cell (h j hj) hb
def NumAt (w:World) (u:Nat) (x:Nat):Prop:=w.heap[u]? =some (.cells #[H J x] 3 (0,0))
theorem NumAt.cell {w:World} {u x:Nat} (h:NumAt w u x):w.cell? ⟨u,0,none⟩=some (H J x):=by unfold NumAt at h;simp [World.cell?,h]
theorem NumAt.fz {w:World} {u x:Nat} (h:NumAt w u x):w.frozen? ⟨u,0,none⟩=false:=by unfold NumAt at h;simp [World.frozen?,h]
theorem NumAt.keep {S:List Nat} {w w':World} {u x:Nat} (h:NumAt w u x) (k:Keeps S w w') (hu:u ∉ S):NumAt w' u x:=k.heap h hu
theorem NumAt.set {w:World} {u x:Nat} (h:NumAt w u x) (y:Nat):NumAt (w.setCell ⟨u,0,none⟩ (H J y)) u y:=heap_setCell_same _ u 0 _ _ _ h
theorem uses1_any (m:MRe):∀ (b o c u x:Nat) (w:World),At8 w b o m→m.OK w→w.cell? ⟨c,0,none⟩=some (.func (Fn.func 69) #[] #[.pointer (some ⟨u,0,none⟩),.pointer (some ⟨c,0,none⟩)])→NumAt w u x→x < 128→u≠b→u≠c→u ∉ m.blocks→
  Calls Tryz.prog 69 #[.pointer (some ⟨b,o,none⟩),.pointer (some ⟨u,0,none⟩),.pointer (some ⟨c,0,none⟩)] w fun e w'=> e=.returned (.tuple #[])∧Keeps [u] w w'∧NumAt w' u (x ||| usesT m.tree):=by
 induction m using MRe.induct with
 | h op sa sc set ka kc kids mn mx mode n neg ih=>
  intro b o c u x w h1 k1 hc hu hx128 hub huc hum;have a2:=h1.node.c2;have hcap:=k1.nodes.cap;have hle:=k1.nodes.le;unfold maxLen at hcap;obtain ⟨v,hv⟩:∃ v,v=usesOfT (MRe.tree (.node op sa sc set ka kc kids mn mx mode n neg)):=⟨_,rfl⟩;have hv128:v < 128:=by rw [hv];exact usesOfT_lt _
  have HU:=gi (fun (W:World) (h:Keeps [] w W)=> usesOf_any b o (.node op sa sc set ka kc kids mn mx mode n neg) W (h1.keep h) (k1.keep h));have hT:usesT (MRe.node op sa sc set ka kc kids mn mx mode n neg).tree=v ||| usesL (MRe.trees kids):=by rw [hv];rfl
  rw [hT];rw [←hv] at HU;have hor:=bits_or hx128 hv128;have HK1:=gi k1.kids;have hblk:u ∉ blockIf kids.length ka ++ MRe.blocksL kids:=fun h=> hum (by simp only [MRe.blocks,List.mem_append] at h ⊢;exact .inr h);have HBL:=gi hblk;have HI:=gi ih;have HV:=gi hv;have hc0:=hu.cell;have hf0:=hu.fz;have HNU:=gi hu;have HUB:=gi hub;have HUC:=gi huc;have HX:=gi hx128;have HV1:=gi hv128;clear ih h1 k1 hT hv hu hx128 hv128 hum hblk;go_enter Tryz.func69,Tryz.ntmps69
  go_upto_region 0 with fail
  go_cut [] (fun wx=> ∃ W,W=wx∧Keeps [u] w W∧NumAt W u (x ||| v))
  case first=>
   refine wp_region_held_drew (S:=fun _=> True) (by kernel_rfl) trivial (fun hHeld=> ?_);refine tk 1 ?_;refine j7 0 2 (fun K hK=> ?_) fun K hK=> ?_
   ·go_simp;refine hK.out _ _ (trivial) (fun hHeld=> ?_);clear hK K;try go_frame
    refine j6 2 fun K hK=> ?_;go_simp
    go_at_call 70
    refine Calls.mono (HU.o _ ((Keeps.refl [] w).drew)) ?_;rintro e w2 ⟨rfl,hk⟩;have K2:=gi (((Keeps.refl [] w).drew).trans hk);have N2:=gi (HNU.o.keep K2.o (by simp));have n2:=N2.o.cell;have f2:=N2.o.fz;clear hk;refine hK.out _ _ (trivial) (fun hHeld=> ?_);clear hK K;try go_frame
    refine tk 3 ?_;refine j6 4 fun K hK=> ?_;go_simp;refine hK.out _ _ (trivial) (fun hHeld=> ?_);clear hK K;try go_frame
    refine wd ?_;go_wp2;go_meet;exact ⟨_,rfl,(K2.o.mono (by simp)).trans ((Keeps.refl [u] w2).setCell (p:=⟨u,0,none⟩) (.inl (by simp)) _),N2.o.set _⟩
   ·go_simp
    go_at_call 70
    refine Calls.mono (HU.o _ ((Keeps.refl [] w).drew)) ?_;rintro e w2 ⟨rfl,hk⟩;have K2:=gi (((Keeps.refl [] w).drew).trans hk);have N2:=gi (HNU.o.keep K2.o (by simp));have n2:=N2.o.cell;have f2:=N2.o.fz;clear hk;refine hK.out _ _ (trivial) (fun hHeld=> ?_);clear hK K;try go_frame
    refine j6 0 fun K hK=> ?_;go_simp;refine hK.out _ _ (trivial) (fun hHeld=> ?_);clear hK K;try go_frame
    refine tk 3 ?_;refine j6 4 fun K hK=> ?_;go_simp;refine hK.out _ _ (trivial) (fun hHeld=> ?_);clear hK K;try go_frame
    refine wd ?_;go_wp2;go_meet;exact ⟨_,rfl,(K2.o.mono (by simp)).trans ((Keeps.refl [u] w2).setCell (p:=⟨u,0,none⟩) (.inl (by simp)) _),N2.o.set _⟩
  case rest=>
   obtain ⟨X,rfl,kX,nX⟩:=hcut;have KX:=gi kX;have hcX:=kX.cell hc (by simp only [List.mem_cons,List.not_mem_nil,or_false];exact fun h=> HUC.o h.symm);have a2X:=kX.cell a2 (by simp only [List.mem_cons,List.not_mem_nil,or_false];exact fun h=> HUB.o h.symm);have NX:=gi nX;clear kX nX hc0 hf0 hc a2 HNU HU hor;go_wp2
   go_loopw [14] (fun i wr=> ∃ k:Nat,k≤kids.length∧i=H J k∧∃ y:Nat,y < 128∧NumAt wr u y∧y ||| usesL ((MRe.trees kids).drop k)=x ||| (v ||| usesL (MRe.trees kids))∧Keeps [u] w wr∧Keeps [u] X wr) (fun i _=> kids.length - (intOf i).toNat)
   case atStart=> exact ⟨0,Nat.zero_le _,rfl,x ||| v,or_lt HX.o HV1.o,NX.o,by rw [List.drop_zero,Nat.or_assoc],KX.o,Keeps.refl _ _⟩
   case round=>
    obtain ⟨k,hk,rfl,y,hy,hn,hl,hkw,hkX⟩:=hrel;have HLL:=gi hl;have HKW:=gi hkw;have HKX:=gi hkX;have HY:=gi hy;have HN:=gi hn
    by_cases hlt:k < kids.length
    ·have hkin:=HK1.o.keepS hkw (by intro q hq;simp only [List.mem_cons,List.not_mem_nil,or_false];intro h;subst h;exact HBL.o hq);obtain ⟨b',off,rfl,hb,hx⟩:=hkin.nodes.kid (by omega);have x1:=hkX.cell hcX (by simp only [List.mem_cons,List.not_mem_nil,or_false];exact fun h=> HUC.o h.symm);have x2:=hkX.cell a2X (by simp only [List.mem_cons,List.not_mem_nil,or_false];exact fun h=> HUB.o h.symm);have hc1:=hkin.all kids[k] (List.getElem_mem hlt);have hub':u≠b':=fun h=> HBL.o (List.mem_append_left _ (by unfold blockIf;rw [if_neg (by omega)];simp [h]));have hum':u ∉ kids[k].blocks:=fun h=> HBL.o (List.mem_append_right _ (MRe.mem_blocksL (List.getElem_mem hlt) h));have HCALL:=gi (fun (W:World) (h:Keeps [] wr W)=> HI.o kids[k] (List.getElem_mem hlt) b' (off + k * 8) c u y W ((hx k hlt).keep h) (hc1.keep h) (h.c x1) (HN.o.keep h (by simp)) HY.o hub' HUC.o hum');have hd:usesL ((MRe.trees kids).drop k)=usesT kids[k].tree ||| usesL ((MRe.trees kids).drop (k + 1)):=by rw [trees_drop kids k hlt,usesL]
     have HD:=gi (show (y ||| usesT kids[k].tree) ||| usesL ((MRe.trees kids).drop (k + 1))=x ||| (v ||| usesL (MRe.trees kids)) by rw [←hl,hd,Nat.or_assoc]);have HUT:=gi (usesT_lt kids[k].tree);clear hd hc1 hx hl hkX hkw HI hcX a2X hn hy hkin hub' hum';go_wp2;refine rg (S:=fun w'=> w'.cell? ⟨c,0,none⟩=some (.func (Fn.func 69) #[] #[.pointer (some ⟨u,0,none⟩),.pointer (some ⟨c,0,none⟩)])∧w'.cell? ⟨b,o + 2,none⟩=some (M (some ⟨b',off,none⟩) kids.length kc)) (fun _ k=> ⟨k.c x1,k.c x2⟩) fun kz hHeld=> ?_;refine tk 0 ?_;refine tk 1 ?_;refine tk 2 ?_;refine tk 3 ?_;refine tk 4 ?_;refine tk 5 ?_;refine tk 6 ?_;refine j6 7 fun K hK=> ?_;go_simp
     go_at_call 69
     refine Calls.mono (HCALL.o _ ((Keeps.refl [] wr).drew)) ?_;rintro e w3 ⟨rfl,hk3,hn3⟩;have K3:=gi ((((Keeps.refl [] wr).drew).mono (S':=[u]) (by simp)).trans hk3);have N3:=gi hn3;clear hk3 hn3 HCALL;refine hK.out _ _ (⟨K3.o.cell x1 (by simp only [List.mem_cons,List.not_mem_nil,or_false];exact fun h=> HUC.o h.symm),K3.o.cell x2 (by simp only [List.mem_cons,List.not_mem_nil,or_false];exact fun h=> HUB.o h.symm)⟩) (fun hHeld=> ?_);clear hK K;try go_frame
     refine wd ?_;go_wp2;go_roundw
     case rel=> exact ⟨k + 1,by omega,by go_num,y ||| usesT kids[k].tree,or_lt HY.o HUT.o,N3.o,HD.o,HKW.o.trans K3.o,HKX.o.trans K3.o⟩
     case measure=> simp [intOf];omega
    ·obtain rfl:k=kids.length:=by omega
     have h0:usesL ((MRe.trees kids).drop kids.length)=0:=by rw [List.drop_of_length_le (by rw [MRe.trees_length];omega)];rfl
     have HH:=gi (show x ||| (v ||| usesL (MRe.trees kids))=y by rw [←hl,h0,Nat.or_zero]);clear hl hkX hkw hn hy h0;go_wp2
     go_end0
     exact ⟨rfl,HKW.o,by rw [HH.o];exact HN.o⟩
theorem uses_any (m:MRe) (w:World) (k1:m.OK w):
  Calls Tryz.prog 34 #[m.val] w fun e w'=> e=.returned (H J (usesT m.tree))∧Keeps [] w w':=by
 obtain ⟨B,hB⟩:∃ B,B=w.heap.size:=⟨_,rfl⟩;have hlt:=k1.block_lt;have HW:=gi (fun (W:World) (h1:At8 W B 0 m) (h2:m.OK W) (h3:W.cell? ⟨B + 1 + 1,0,none⟩=some (.func (Fn.func 69) #[] #[.pointer (some ⟨B + 1,0,none⟩),.pointer (some ⟨B + 1 + 1,0,none⟩)])) (h4:NumAt W (B + 1) 0)=> uses1_any m B 0 (B + 1 + 1) (B + 1) 0 W h1 h2 h3 h4 (by omega) (by omega) (by omega) (fun h=> by have:=hlt _ h;omega));have HK1:=gi k1;obtain ⟨r1,hr1⟩:∃ r,r=m:=⟨_,rfl⟩;obtain ⟨op1,sa1,sc1,set1,ka1,kc1,kids1,mn1,mx1,mode1,n1,neg1⟩:=m;simp only [MRe.val];have hmf:∀ (fn:Fn) (first cap:Array Value) (w:World),(Instr.makeFunc fn first cap).run Tryz.prog w=.ok (.func fn first cap) w:=fun _ _ _ _=> rfl;rw [←hr1] at HW HK1 ⊢;have R1:r1.row=[H J op1,M sa1 set1.length sc1,M ka1 kids1.length kc1,H J mn1,H J mx1,H J mode1,H J n1,F neg1]:=by rw [hr1];rfl
 have HR1:=gi R1;have HB:=gi hB;clear hr1 R1 k1 hlt hB;go_enter Tryz.func34,Tryz.ntmps34
 go_wp2_with fail
 rw [←HB.o];refine Calls.mono (HW.o _ ?_ ?_ ?_ ?_) ?_
 ·rw [HB.o];exact At8.keep (At8.box HR1.o.symm) (Keeps.a2 _ _ _)
 ·exact HK1.o.keep (Keeps.a3 w _ _ _)
 ·have hc:=cell_new ((w.alloc (.cells #[H J op1,M sa1 set1.length sc1,M ka1 kids1.length kc1,H J mn1,H J mx1,H J mode1,H J n1,F neg1] 26)).alloc (.cells #[H J 0] 3)) #[.func (Fn.func 69) #[] #[.pointer (some ⟨B + 1,0,none⟩),.pointer (some ⟨B + 1 + 1,0,none⟩)]] 93 0;have hs:((w.alloc (.cells #[H J op1,M sa1 set1.length sc1,M ka1 kids1.length kc1,H J mn1,H J mx1,H J mode1,H J n1,F neg1] 26)).alloc (.cells #[H J 0] 3)).heap.size=B + 1 + 1:=by simp [HB.o]
  rw [hs] at hc;exact hc
 ·exact (Keeps.a1 _ _).heap (by rw [HB.o];exact heap_alloc2_new w _ _) (by simp)
 rintro e w2 ⟨rfl,hk,hn⟩;rw [Nat.zero_or] at hn;have HK:=gi (((Keeps.a3 w _ _ _).mono (S':=[B + 1]) (by simp)).trans hk);have hc:=hn.cell;clear hk;have HN:=gi hn;clear hn;go_wp2;go_ret;exact ⟨rfl,HK.o.mono (by intro x hx;simp at hx;subst hx;exact .inr (by have:=HB.o;omega))⟩
theorem andNot_32:∀ u:Fin 128,(bits .andNot .i64 (u.val:Int) 32==0)=(u.val==0 || u.val==32):=by decide
def plainP (t:Tree):Bool:=usesT t==0 || usesT t==32
theorem andNot_eq (t:Tree):decide (bits .andNot .i64 (usesT t:Int) 32=0)=plainP t:=by
 have h:=andNot_32 ⟨usesT t,usesT_lt t⟩;simp only at h;rw [plainP,←h]
 rfl
theorem plain_any (m:MRe) (w:World) (k1:m.OK w):
  Calls Tryz.prog 131 #[m.val] w fun e w'=> e=.returned (F (plainP m.tree))∧Keeps [] w w':=by
 have HU:=gi (fun (W:World) (h:Keeps [] w W)=> uses_any m W (k1.keep h));have HE:=gi (andNot_eq m.tree);obtain ⟨u,hu⟩:∃ u,u=usesT m.tree:=⟨_,rfl⟩;obtain ⟨p,hp⟩:∃ p,p=plainP m.tree:=⟨_,rfl⟩;rw [←hu] at HU HE;rw [←hp] at HE ⊢;clear hu hp k1;obtain ⟨op,sa,sc,set,ka,kc,kids,mn,mx,mode,n,neg⟩:=m;simp only [MRe.val] at HU ⊢;go_enter Tryz.func131,Tryz.ntmps131
 go_wp2_with fail
 refine Calls.mono (HU.o _ (Keeps.a1 w _)) ?_;rintro e w2 ⟨rfl,hk⟩;have HK:=gi ((Keeps.a1 w _).trans hk);clear hk;go_wp2;go_ret;exact ⟨by rw [←HE.o];rfl,HK.o⟩
def peelR:Tree→Option Tree
 | .node op _ kids _ _ _ _ neg=>
  if op=7∧neg=false∧(kids.getD 0 .nil).op=2∧plainP ((kids.getD 0 .nil).kids.getD ((kids.getD 0 .nil).kids.length - 1) .nil)=true∧nullP ((kids.getD 0 .nil).kids.getD ((kids.getD 0 .nil).kids.length - 1) .nil)=true
  then some (mkT 7 [naryT 2 ((kids.getD 0 .nil).kids.take ((kids.getD 0 .nil).kids.length - 1))]) else none
theorem peelR_none {op set kids mn mx mode n neg} (h:op=7→neg=false→(kids.getD 0 Tree.nil).op=2→plainP ((kids.getD 0 .nil).kids.getD ((kids.getD 0 .nil).kids.length - 1) .nil)=true→nullP ((kids.getD 0 .nil).kids.getD ((kids.getD 0 .nil).kids.length - 1) .nil)=true→False):peelR (.node op set kids mn mx mode n neg)=none:=by
 rw [peelR,if_neg];rintro ⟨h1,h2,h3,h4,h5⟩;exact h h1 h2 h3 h4 h5
theorem rule_one {w X W:World} {B T:Nat} {op mn mx:Int} {s:MRe} {src:List Nat} (hB:B=w.heap.size) (kX:Keeps [] w X) (kW:Keeps [] X W) (hz:X.heap[B + 1]? =some (.cells #[H J 0,M none 0 0,M none 0 0,H J 0,H J 0,H J 0,H J 0,F false] T (0,0))) (hsz:B + 2≤X.heap.size)
  (so:s.OK W) (sb:∀ b∈s.blocks,b∈src) (hlt:∀ b∈src,b < w.heap.size) (cs:Array Value) (hcs:cs.toList=s.row):
  (set8 (W.alloc (.cells cs T)) (B + 1) (H J op) (M none 0 0) (M (some ⟨W.heap.size,0,none⟩) 1 1) (H J mn) (H J mx) (H J 0) (H J 0) (F false)).heap[B + 1]? =some (.cells #[H J op,M none 0 0,M (some ⟨W.heap.size,0,none⟩) 1 1,H J mn,H J mx,H J 0,H J 0,F false] T (0,0))∧
  MRe.OK (set8 (W.alloc (.cells cs T)) (B + 1) (H J op) (M none 0 0) (M (some ⟨W.heap.size,0,none⟩) 1 1) (H J mn) (H J mx) (H J 0) (H J 0) (F false)) (.node op none 0 [] (some ⟨W.heap.size,0,none⟩) 1 [s] mn mx 0 0 false)∧
  Keeps [] w (set8 (W.alloc (.cells cs T)) (B + 1) (H J op) (M none 0 0) (M (some ⟨W.heap.size,0,none⟩) 1 1) (H J mn) (H J mx) (H J 0) (H J 0) (F false))∧
  From w.heap.size src (MRe.node op none 0 [] (some ⟨W.heap.size,0,none⟩) 1 [s] mn mx 0 0 false).blocks:=by
 have hz5:=(Keeps.a1 W (.cells cs T)).heap (kW.h hz) (by simp);have hk8:=set8_keeps (W.alloc (.cells cs T)) (B + 1) (H J op) (M none 0 0) (M (some ⟨W.heap.size,0,none⟩) 1 1) (H J mn) (H J mx) (H J 0) (H J 0) (F false);have hs1:=kX.size;have hs2:=kW.size;refine ⟨set8_heap hz5 _ _ _ _ _ _ _ _,.of (SpansIn.nil _) ⟨NodesIn.of_block (kids:=[s]) (hk8.heap (heap_alloc_new W _) (by simp;omega)) (by rw [hcs];simp [flatK]) (by simp [maxLen]),?_⟩,((kX.trans kW).trans (Keeps.a1 W _)).after hk8 (by intro x hx;simp at hx;subst hx;exact .inr (by omega)),?_⟩
 ·intro x hx;simp only [List.mem_cons,List.not_mem_nil,or_false] at hx;subst hx;exact (so.keep (Keeps.a1 _ _)).keepS hk8 fun b hb=> by have:=hlt b (sb b hb);simp;omega
 ·intro b hb;simp only [MRe.blocks,MRe.blocksL,List.mem_append,List.not_mem_nil,or_false] at hb
  rcases hb with hb | hb | hb
  ·simp [blockIf] at hb
  ·simp [blockIf] at hb;subst hb;exact .inr (by omega)
  ·exact .inl (sb b hb)
theorem peel_any (m:MRe) (w:World) (k1:m.OK w) (f1:m.tree.WF):
  Calls Tryz.prog 90 #[m.val] w (RulePost w m.blocks (peelR m.tree)):=by
 obtain ⟨m0,hm0⟩:∃ m0,m0=m:=⟨_,rfl⟩;have hm00:=hm0;obtain ⟨op,sa,sc,set,ka,kc,kids,mn,mx,mode,n,neg⟩:=m;have hno:=wf_node f1;obtain ⟨B,X,HBE,HXE,HC,HZ,hsz,HKX⟩:=pre0 w op sa sc set ka kc kids mn mx mode n neg;have HM:=gi hm00;have HK:=gi k1;have hval:m0.val=.agg #[H J op,M sa set.length sc,M ka kids.length kc,H J mn,H J mx,H J mode,H J n,F neg]:=by rw [hm0];rfl
 have hT:peelR (MRe.tree (.node op sa sc set ka kc kids mn mx mode n neg))=peelR (.node op set (MRe.trees kids) mn mx mode n neg):=rfl;rw [hT];simp only [MRe.val];have HK0:=gi (Keeps.refl [] X);clear hm0 hm00 hval hT
 by_cases h7:op=7
 ·subst h7;have hlen0:kids.length=1:=hno.hone (by simp);have HLEN:=gi hlen0;have hln:(0:Int) < (kids.length:Int):=by omega
  have hln0:0 < kids.length:=by omega
  clear hlen0
  cases neg with
  | true=>
   have HR:=gi (peelR_none (op:=7) (set:=set) (kids:=MRe.trees kids) (mn:=mn) (mx:=mx) (mode:=mode) (n:=n) (neg:=true) (fun _ h=> by cases h));obtain ⟨c0,c1,c2,c3,c4,c5,c6,c7⟩:=HC.o.cells0;go_enter Tryz.func90,Tryz.ntmps90
   go_upto_region 1 with fail
   rw [←HXE.o,←HBE.o];obtain ⟨z0,z1,z2,z3,z4,z5,z6,z7,zf,HR2,HK2⟩:=nn HBE.o HKX.o HK0.o HZ.o;go_wp2;refine rt HR2.o ?_;exact RulePost.of_none HR.o rfl HK2.o
  | false=>
   obtain ⟨b1,o1,k0,rfl,hk0m,hk00,hk0a,hk0o⟩:=k1.kids.head hln0;obtain ⟨r,hr⟩:=trees_head hk00;have hg:(MRe.trees kids).getD 0 .nil=k0.tree:=by rw [hr];rfl
   have f2:=wf_kid f1 hk0m;have hb0:∀ q∈k0.blocks,q∈(MRe.node 7 sa sc set (some ⟨b1,o1,none⟩) kc kids mn mx mode n false).blocks:=blocks_kid hk0m;have hPR:peelR (.node 7 set (MRe.trees kids) mn mx mode n false)=if k0.tree.op=2∧plainP (k0.tree.kids.getD (k0.tree.kids.length - 1) .nil)=true∧nullP (k0.tree.kids.getD (k0.tree.kids.length - 1) .nil)=true then some (mkT 7 [naryT 2 (k0.tree.kids.take (k0.tree.kids.length - 1))]) else none:=by
    rw [peelR,hg];simp only [true_and]
   obtain ⟨op1,sa1,sc1,set1,ka1,kc1,kids1,mn1,mx1,mode1,n1,neg1⟩:=k0;have g:=hk0a.node;obtain ⟨e0,e1,e2,e3,e4,e5,e6,e7⟩:=id g;obtain ⟨d0,d1,d2,d3,d4,d5,d6,d7⟩:=HKX.o.c8 e0 e1 e2 e3 e4 e5 e6 e7;clear g e0 e1 e2 e3 e4 e5 e6 e7;have hX2:(MRe.tree (.node op1 sa1 sc1 set1 ka1 kc1 kids1 mn1 mx1 mode1 n1 neg1)).kids=MRe.trees kids1:=rfl;have hX3:(MRe.tree (.node op1 sa1 sc1 set1 ka1 kc1 kids1 mn1 mx1 mode1 n1 neg1)).op=op1:=rfl;rw [hX2,hX3] at hPR
   by_cases h2:op1=2
   ·subst h2;have hl2:2≤kids1.length:=(wf_node f2).htwo (.inl rfl);obtain ⟨l,hl⟩:∃ l,kids1.length=l + 1:=⟨kids1.length - 1,by omega⟩;obtain ⟨b2,o2,rfl,hbb2,hx2⟩:=hk0o.nodes.kid (by omega);have ha2:=hx2 l (by omega);have hao:=hk0o.kid (List.getElem_mem (n:=l) (by omega));have hcap:=hk0o.nodes.cap;have hle:=hk0o.nodes.le;unfold maxLen at hcap;have htl':(MRe.trees kids1).length - 1=l:=by rw [MRe.trees_length];omega
    have hgk:(MRe.trees kids1).getD ((MRe.trees kids1).length - 1) .nil=(kids1[l]'(by omega)).tree:=by
     rw [htl',List.getD_eq_getElem?_getD,List.getElem?_eq_getElem (by rw [MRe.trees_length];omega),Option.getD_some,trees_getElem]
    have htk:(MRe.trees kids1).take ((MRe.trees kids1).length - 1)=MRe.trees (kids1.take l):=by
     rw [htl',MRe.trees_eq,MRe.trees_eq,List.map_take]
    rw [hgk,htk] at hPR;simp only [true_and] at hPR;have htl:(kids1.take l).length=l:=by rw [List.length_take];omega
    have hki:KidsIn w (some ⟨b2,o2,none⟩) kc1 (kids1.take l):=⟨hk0o.nodes.take l,fun x hx=> hk0o.kid (List.mem_of_mem_take hx)⟩;have HN:=fun (W:World) (h:Keeps [] w W)=> nary_any 2 (some ⟨b2,o2,none⟩) kc1 (kids1.take l) W (hki.keep h);rw [htl] at HN;have HNA:=gi HN;have hblk:∀ q∈blockIf l (some ⟨b2,o2,none⟩) ++ MRe.blocksL (kids1.take l),q∈(MRe.node 7 sa sc set (some ⟨b1,o1,none⟩) kc kids mn mx mode n false).blocks:=fun q hq=> hb0 q (by
     simp only [MRe.blocks,List.mem_append]
     rcases List.mem_append.1 hq with h | h
     ·refine .inr (.inl ?_);unfold blockIf at h ⊢;rw [if_neg (by omega)]
      split at h
      ·simp at h
      ·simpa using h
     ·obtain ⟨y,hy,hqy⟩:=MRe.blocksL_mem h;exact .inr (.inr (MRe.mem_blocksL (List.mem_of_mem_take hy) hqy)))
    have HBK:=gi hblk;have HLT:=gi k1.block_lt;have hsl:∀ W:World,(Instr.sliceAt 24 (M (some ⟨b2,o2,none⟩) kids1.length kc1) none (some (H J l)) none).run Tryz.prog W=.ok (M (some ⟨b2,o2,none⟩) l kc1) W:=by
     intro W;have q1:(l:Int)≤kc1:=by omega
     simp [go_sem,q1]
    have HPL:=fun (W:World) (h:Keeps [] w W)=> plain_any (kids1[l]'(by omega)) W (hao.keep h);have HNL:=fun (W:World) (h:Keeps [] w W)=> null_any (kids1[l]'(by omega)) W (hao.keep h);obtain ⟨p,hp⟩:∃ p,p=plainP (kids1[l]'(by omega)).tree:=⟨_,rfl⟩;obtain ⟨q,hq⟩:∃ q,q=nullP (kids1[l]'(by omega)).tree:=⟨_,rfl⟩;rw [←hp,←hq] at hPR;simp only [←hp] at HPL;simp only [←hq] at HNL;obtain ⟨k2,hk2⟩:∃ k2,k2=(kids1[l]'(by omega)):=⟨_,rfl⟩;rw [←hk2] at ha2 hao;simp only [←hk2] at HPL HNL;obtain ⟨op2,sa2,sc2,set2,ka2,kc2,kids2,mn2,mx2,mode2,n2,neg2⟩:=k2;have g:=ha2.node;obtain ⟨e0,e1,e2,e3,e4,e5,e6,e7⟩:=id g;obtain ⟨y0,y1,y2,y3,y4,y5,y6,y7⟩:=HKX.o.c8 e0 e1 e2 e3 e4 e5 e6 e7;clear g e0 e1 e2 e3 e4 e5 e6 e7;simp only [MRe.val] at HPL HNL;have HPL:=gi HPL;have HNL:=gi HNL;have hw1:IntKind.i64.wrap ((kids1.length:Int) - 1)=(l:Int):=by rw [IntWalk.i64_in _ (by omega)];omega
    have hlb:(0:Int)≤(l:Int):=by omega
    have hlc:(l:Int) < (kids1.length:Int):=by omega
    have hlt':l < kids1.length:=by omega
    have hPR':=gi hPR;clear hPR hX2 hX3 hg hr hk00 hk0m hk0a hk0o f2 f1 k1 hx2 ha2 hao hl hki htl hgk htk htl' hp hq hk2 hblk hb0 HN hl2;obtain ⟨c0,c1,c2,c3,c4,c5,c6,c7⟩:=HC.o.cells0;go_enter Tryz.func90,Tryz.ntmps90
    go_upto_region 1 with fail
    rw [←HXE.o,←HBE.o];go_wp2_with fail
    refine Calls.mono (HPL.o _ HKX.o) ?_;rintro e w3 ⟨rfl,hk3⟩;have K3:=gi hk3;obtain ⟨u0,u1,u2,u3,u4,u5,u6,u7⟩:=K3.o.c8 y0 y1 y2 y3 y4 y5 y6 y7;clear hk3 c0 c1 c2 c3 c4 c5 c6 c7 d0 d1 d2 d3 d4 d5 d6 d7 y0 y1 y2 y3 y4 y5 y6 y7 HPL
    cases p with
    | false=>
     have HR:=gi (show peelR (.node 7 set (MRe.trees kids) mn mx mode n false)=none by rw [hPR'.o,if_neg (fun h=> by cases h.1)]);obtain ⟨z0,z1,z2,z3,z4,z5,z6,z7,zf,HR2,HK2⟩:=nn HBE.o HKX.o K3.o HZ.o;go_wp2;refine rt HR2.o ?_;exact RulePost.of_none HR.o rfl HK2.o
    | true=>
     go_wp2_with fail
     refine Calls.mono (HNL.o _ (HKX.o.trans K3.o)) ?_;rintro e w4 ⟨rfl,hk4⟩;have K4:=gi (K3.o.trans hk4);clear hk4 u0 u1 u2 u3 u4 u5 u6 u7 HNL
     cases q with
     | false=>
      have HR:=gi (show peelR (.node 7 set (MRe.trees kids) mn mx mode n false)=none by rw [hPR'.o,if_neg (fun h=> by cases h.2)]);obtain ⟨z0,z1,z2,z3,z4,z5,z6,z7,zf,HR2,HK2⟩:=nn HBE.o HKX.o K4.o HZ.o;go_wp2;refine rt HR2.o ?_;exact RulePost.of_none HR.o rfl HK2.o
     | true=>
      have HR:=gi (show peelR (.node 7 set (MRe.trees kids) mn mx mode n false)=some (mkT 7 [naryT 2 (MRe.trees (kids1.take l))]) by rw [hPR'.o];simp);go_wp2_with fail
      refine Calls.mono (HNA.o _ (HKX.o.trans K4.o)) ?_;rintro e w5 ⟨s,rfl,hst,hso,hk5,hsb⟩;have K5:=gi (K4.o.trans hk5);obtain ⟨s0,hs0⟩:∃ s0,s0=s:=⟨_,rfl⟩;rw [←hs0] at hst hso hsb;have S0:=gi hs0;have ST:=gi hst;have SO:=gi hso;have SB:=gi hsb;clear hk5 hs0 hst hso hsb;obtain ⟨op9,sa9,sc9,set9,ka9,kc9,kids9,mn9,mx9,mode9,n9,neg9⟩:=s;simp only [MRe.val];have hz5:=(Keeps.a1 w5 (.cells #[H J op9,M sa9 set9.length sc9,M ka9 kids9.length kc9,H J mn9,H J mx9,H J mode9,H J n9,F neg9] 26)).heap (K5.o.h HZ.o) (by simp);obtain ⟨z0,z1,z2,z3,z4,z5,z6,z7,zf⟩:=zero_cells hz5;have HZ5:=gi hz5;clear hz5;go_wp2;obtain ⟨hR,hok,hke,hfr⟩:=rule_one (op:=7) (mn:=0) (mx:=0) (T:=26) (s:=s0) (src:=(MRe.node 7 sa sc set (some ⟨b1,o1,none⟩) kc kids mn mx mode n false).blocks) HBE.o HKX.o K5.o HZ.o hsz SO.o (fun b hb=> HBK.o b (SB.o b hb)) HLT.o #[H J op9,M sa9 set9.length sc9,M ka9 kids9.length kc9,H J mn9,H J mx9,H J mode9,H J n9,F neg9] (by rw [S0.o];rfl);refine rt hR ?_;exact RulePost.of_some (.node 7 none 0 [] (some ⟨w5.heap.size,0,none⟩) 1 [s0] 0 0 0 0 false) (by rw [HR.o];simp only [MRe.tree,MRe.trees,ST.o];rfl) rfl hok hke hfr
   ·have h2b:(op1 !=2)=true:=by simpa using h2
    have HR:=gi (show peelR (.node 7 set (MRe.trees kids) mn mx mode n false)=none by rw [hPR,if_neg (fun h=> h2 h.1)]);clear hPR hX2 hX3 hg hr hk00 hk0m hk0a hk0o f2 f1 k1 hb0;obtain ⟨c0,c1,c2,c3,c4,c5,c6,c7⟩:=HC.o.cells0;go_enter Tryz.func90,Tryz.ntmps90
    go_upto_region 1 with fail
    rw [←HXE.o,←HBE.o];obtain ⟨z0,z1,z2,z3,z4,z5,z6,z7,zf,HR2,HK2⟩:=nn HBE.o HKX.o HK0.o HZ.o;go_wp2;refine rt HR2.o ?_;exact RulePost.of_none HR.o rfl HK2.o
 ·have HR:=gi (peelR_none (op:=op) (set:=set) (kids:=MRe.trees kids) (mn:=mn) (mx:=mx) (mode:=mode) (n:=n) (neg:=neg) (fun h=> absurd h h7));obtain ⟨c0,c1,c2,c3,c4,c5,c6,c7⟩:=HC.o.cells0;go_enter Tryz.func90,Tryz.ntmps90
  go_upto_region 1 with fail
  rw [←HXE.o,←HBE.o];obtain ⟨z0,z1,z2,z3,z4,z5,z6,z7,zf,HR2,HK2⟩:=nn HBE.o HKX.o HK0.o HZ.o;go_wp2;refine rt HR2.o ?_;exact RulePost.of_none HR.o rfl HK2.o
end Go.Proofs.YtjnlkjlbejelgaaGreat
