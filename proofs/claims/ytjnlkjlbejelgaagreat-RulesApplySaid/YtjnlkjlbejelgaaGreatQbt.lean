/- Part 46 of the proof. No condition: every lemma says its own. -/
import Derived.Test.YtjnlkjlbejelgaaGreatQbq
import Derived.Test.YtjnlkjlbejelgaaGreatQbr
import Derived.Test.YtjnlkjlbejelgaaGreatQbs
namespace Go.Proofs.YtjnlkjlbejelgaaGreat
open Go.RowKit
open Go.Value renaming int→H,slice→M,bool→F
open Go.IntKind renaming i64→J
set_option maxRecDepth 100000
set_option maxHeartbeats 16000000
theorem names_get (k:Nat) (h:k < 17):∃ b,(namesV 17)[k]? =some (.string b):=by
 obtain rfl | rfl | rfl | rfl | rfl | rfl | rfl | rfl | rfl | rfl | rfl | rfl | rfl | rfl | rfl | rfl | rfl:k=0∨k=1∨k=2∨k=3∨k=4∨k=5∨k=6∨k=7∨k=8∨k=9∨k=10∨k=11∨k=12∨k=13∨k=14∨k=15∨k=16:=by omega
 all_goals exact ⟨_,rfl⟩
theorem names_cell {w:World} {g c k:Nat} {b:ByteArray} (h:SliceAt w 9 1 (some g) 17 c (namesV 17)) (hb:(namesV 17)[k]? =some (.string b)):w.cell? ⟨g,k,none⟩=some (.string b):=by
 obtain ⟨hk,he⟩:=List.getElem?_eq_some_iff.1 hb;rw [h.cell k hk,he]
theorem box_store {W0 w3:World} {g:Nat} {T:Tree} {op sa sc set ka kc kids mn mx mode n neg} (hz:w3.heap[g]? =some (.cells #[H J 0,M none 0 0,M none 0 0,H J 0,H J 0,H J 0,H J 0,F false] 26 (0,0))) (hk:Keeps [] W0 w3) (hg:W0.heap.size≤g) (qo:MRe.OK w3 (.node op sa sc set ka kc kids mn mx mode n neg)) (ht:MRe.tree (.node op sa sc set ka kc kids mn mx mode n neg)=T) (hne:∀ b∈(MRe.blocks (.node op sa sc set ka kc kids mn mx mode n neg)),b≠g):
  ∃ (q:MRe) (V:World),V=w3.setRow g #[H J op,M sa set.length sc,M ka kids.length kc,H J mn,H J mx,H J mode,H J n,F neg]∧q.tree=T∧q.OK V∧Keeps [] W0 V∧V.heap[g]? =some (.cells q.row.toArray 26 (0,0)):=by
 have hk8:Keeps [g] w3 (w3.setRow g #[H J op,M sa set.length sc,M ka kids.length kc,H J mn,H J mx,H J mode,H J n,F neg]):=(Keeps.refl [g] w3).setRow (.inl (by simp)) _;exact ⟨.node op sa sc set ka kc kids mn mx mode n neg,_,rfl,ht,qo.keepS hk8 fun b hb=> by have:=hne b hb;simp;exact this,hk.after hk8 (by intro x hx;simp at hx;subst hx;exact .inr hg),setRow_heap w3 g _ _ _ _ hz⟩
theorem apply_walk (la:Option Addr) (lc:Nat) (zs:List Int) (at0 how other:Int) (w:World) (hin:IntsIn w la zs) (hl:zs.length≤9223372036854775807) (hb:∀ x∈zs,I64 x) (hat:I64 at0) (hhow:I64 how) (hoth:I64 other):
  Calls Tryz.prog 3 #[M la zs.length lc,H J at0,H J how,H J other] w fun e w'=> e=.returned (F true)∧Keeps [] w w':=by
 have HD:=gi (doubled_any la lc zs at0 how w hin hl hb hat hhow);have HOTH:=gi hoth;clear hin hl hb hat hhow hoth;go_enter Tryz.func3,Tryz.ntmps3
 go_wp2_with fail
 refine Calls.mono HD.o ?_;rintro e w2 ⟨m,cp,rfl,hmo,hmk,hmb,hmv⟩;obtain ⟨m0,hm0⟩:∃ m0,m0=m:=⟨_,rfl⟩;rw [←hm0] at hmo hmb hmv;have HM0:=gi hm0;have HO:=gi hmo;have HWF:=gi (valid_ok hmv).1;have HMB:=gi hmb;have HK2:=gi hmk;obtain ⟨op1,sa1,sc1,set1,ka1,kc1,kids1,mn1,mx1,mode1,n1,neg1⟩:=m;simp only [patVal,MRe.row,List.cons_append,List.nil_append];clear hmo hmk hmb hm0 hmv;go_upto_region 2 with fail
 obtain ⟨Y,hYe⟩:∃ Y,Y=w2.alloc (.cells #[H J op1,M sa1 set1.length sc1,M ka1 kids1.length kc1,H J mn1,H J mx1,H J mode1,H J n1,F neg1,H J cp,F false] 28):=⟨_,rfl⟩;obtain ⟨G9,hG9⟩:∃ G9,G9=w2.heap.size:=⟨_,rfl⟩;have hkY:Keeps [] w2 Y:=by rw [hYe];exact Keeps.a1 _ _
 have h9:Y.heap[G9]? =some (.cells #[H J op1,M sa1 set1.length sc1,M ka1 kids1.length kc1,H J mn1,H J mx1,H J mode1,H J n1,F neg1,H J cp,F false] 28 (0,0)):=by rw [hYe,hG9];exact heap_alloc_new w2 _
 rw [←hYe,←hG9];have KY:=gi (HK2.o.trans hkY);have HOY:=gi (show (MRe.OK Y (.node op1 sa1 sc1 set1 ka1 kc1 kids1 mn1 mx1 mode1 n1 neg1)) by rw [←HM0.o];exact HO.o.keep hkY);have HMB1:=gi (show (MRe.tree (.node op1 sa1 sc1 set1 ka1 kc1 kids1 mn1 mx1 mode1 n1 neg1)).bulk≤12000 by rw [←HM0.o];exact HMB.o);have HW1:=gi (show (MRe.tree (.node op1 sa1 sc1 set1 ka1 kc1 kids1 mn1 mx1 mode1 n1 neg1)).WF by rw [←HM0.o];exact HWF.o);have H9:=gi h9;obtain ⟨c0,c1,c2,c3,c4,c5,c6,c7,c8,c9,cf⟩:=row10_cells h9;clear hYe hG9 hkY h9 c8 c9 cf;have HPA:=rpaths_any (.node op1 sa1 sc1 set1 ka1 kc1 kids1 mn1 mx1 mode1 n1 neg1) Y HOY.o (by have:=HMB1.o;omega);obtain ⟨T1,hT1⟩:∃ T1,T1=MRe.tree (.node op1 sa1 sc1 set1 ka1 kc1 kids1 mn1 mx1 mode1 n1 neg1):=⟨_,rfl⟩;have HT1:=gi hT1;rw [←hT1] at HPA;have HPL:=gi (show (pathsT T1).length≤12000∧∀ p∈pathsT T1,p.length≤12000 by
  have h1:=paths_length T1;have h2:=(size_depth T1).1;have h3:=HMB1.o;rw [←hT1] at h3;exact ⟨by omega,fun p hp=> by have:=h1.2 p hp;omega⟩)
 unfold PathsPost at HPA;obtain ⟨ps,hps⟩:∃ ps,ps=pathsT T1:=⟨_,rfl⟩;rw [←hps] at HPA HPL;simp only [MRe.val] at HPA;have HPA:=gi HPA;clear hps hT1;go_wp2_with fail
 refine Calls.mono HPA.o ?_;rintro e w3 ⟨gp,cc,rows,rfl,hrp,hpa,hk3,hgp,_⟩;have HRL:=gi (show rows.length=ps.length by rw [←hrp,List.length_map]);have HRP:=gi hrp;have HPS:=gi hpa;have K3:=gi hk3;have hc8:=hk3.c8 c0 c1 c2 c3 c4 c5 c6 c7;clear c0 c1 c2 c3 c4 c5 c6 c7;obtain ⟨c0,c1,c2,c3,c4,c5,c6,c7⟩:=hc8;have hpl:=HPL.o.1;clear hk3 hrp hpa hgp;go_wp2
 go_loopw [11,12,13,14,15,16,17,18] (fun i _ _ _ _ _ _ _ wr=> ∃ k:Nat,k≤ps.length∧i=H J k∧Keeps [] w3 wr) (fun i _ _ _ _ _ _ _ _=> ps.length - (intOf i).toNat)
 case atStart=> exact ⟨0,Nat.zero_le _,rfl,Keeps.refl _ _⟩
 case round=>
  obtain ⟨k,hkk,rfl,hkp⟩:=hrel;have KP:=gi hkp;obtain ⟨d0,d1,d2,d3,d4,d5,d6,d7⟩:=hkp.c8 c0 c1 c2 c3 c4 c5 c6 c7;clear hkp
  by_cases hlt:k < ps.length
  ·have hkr:k < rows.length:=by have:=HRL.o;omega
   have hcl:=(HPS.o.keep KP.o).cell k hkr;obtain ⟨hri,hrc,_⟩:=(HPS.o.keep KP.o).ints rows[k] (List.getElem_mem hkr);have hpl2:rows[k].path.length≤12000:=HPL.o.2 _ (by rw [←HRP.o];exact List.mem_map_of_mem (List.getElem_mem hkr))
   generalize rows[k]=rr at *
   obtain ⟨pa,pc,path⟩:=rr;simp only at hcl hri hrc hpl2;have HAT:=rat_any path (.node op1 sa1 sc1 set1 ka1 kc1 kids1 mn1 mx1 mode1 n1 neg1) pa pc;obtain ⟨TT,hTT⟩:∃ TT,TT=atT (MRe.tree (.node op1 sa1 sc1 set1 ka1 kc1 kids1 mn1 mx1 mode1 n1 neg1)) path:=⟨_,rfl⟩;rw [←hTT] at HAT;have HTT:=gi (show (TT.getD .nil).WF∧(TT.getD .nil).bulk≤12000 by
    rw [hTT];have h1:=atT_getD (path:=path) HW1.o;have h2:=HMB1.o;exact ⟨h1.1,by omega⟩)
   have HATW:=gi (fun (W:World) (h:Keeps [] wr W)=> HAT W (HOY.o.keep ((K3.o.trans KP.o).trans h)) (hri.keepS h (fun _ _=> by simp)) hrc (by omega));simp only [MRe.val] at HATW;clear hkr hri hrc HAT hTT hpl2;have hk0:(0:Int)≤(k:Int):=by omega
   have hk1:(k:Int) < (ps.length:Int):=by omega
   go_upto_region 6 with fail
   go_cut [12,13] from 31 to 71 (fun s12 s13 wx=> ∃ (g12:Nat) (er:Int) (q:MRe) (V:World),s12=.pointer (some ⟨g12,0,none⟩)∧s13=H J er∧V=wx∧q.tree=TT.getD .nil∧q.OK V∧Keeps [] wr V∧V.heap[g12]? =some (.cells q.row.toArray 26 (0,0)))
   case first=>
    have K0:=gi ((Keeps.refl [] wr).drew);refine rg (S:=fun w'=> (w'.cell? ⟨G9,0,none⟩=some (H J op1)∧w'.cell? ⟨G9,1,none⟩=some (M sa1 set1.length sc1)∧w'.cell? ⟨G9,2,none⟩=some (M ka1 kids1.length kc1)∧w'.cell? ⟨G9,3,none⟩=some (H J mn1)∧w'.cell? ⟨G9,4,none⟩=some (H J mx1)∧w'.cell? ⟨G9,5,none⟩=some (H J mode1)∧w'.cell? ⟨G9,6,none⟩=some (H J n1)∧w'.cell? ⟨G9,7,none⟩=some (F neg1))∧w'.cell? ⟨gp,k,none⟩=some (M pa path.length pc)) (fun _ k=> ⟨⟨k.c d0,k.c d1,k.c d2,k.c d3,k.c d4,k.c d5,k.c d6,k.c d7⟩,k.c hcl⟩) fun kz hHeld=> ?_;refine tk 0 ?_;refine tk 1 ?_;refine tk 2 ?_;refine tk 3 ?_;refine tk 4 ?_;refine tk 5 ?_;refine j7 6 10 (fun K hK=> ?_) fun K hK=> ?_
    ·go_simp;refine Calls.mono (HATW.o _ K0.o) ?_;rintro ee w4 ⟨q,rfl,hqt,hqo,hk4,hqf⟩;obtain ⟨op9,sa9,sc9,set9,ka9,kc9,kids9,mn9,mx9,mode9,n9,neg9⟩:=q;obtain ⟨er,her⟩:∃ er:Int,er=(if TT.isSome then 0 else 7):=⟨_,rfl⟩;rw [←her];simp only [MRe.val];have QT:=gi hqt;have QO:=gi hqo;have K4:=gi (K0.o.trans hk4);have KA:=gi (K4.o.trans (Keeps.a1 w4 (.cells #[H J 0,M none 0 0,M none 0 0,H J 0,H J 0,H J 0,H J 0,F false] 26)));clear hqt hqo hk4 hqf her;refine hK.out _ _ (kz.o _ K4.o) fun hHeld=> ?_;clear hK K;try go_frame
     refine tk 7 ?_;refine tk 8 ?_;refine tk 9 ?_;refine j6 10 fun K hK=> ?_;go_simp;refine hK.out _ _ (kz.o _ KA.o) fun hHeld=> ?_;clear hK K;try go_frame
     refine j6 11 fun K hK=> ?_;refine wp_store_row 26 (.tmp 12) (.tmp 45) rfl w4.heap.size #[H J op9,M sa9 set9.length sc9,M ka9 kids9.length kc9,H J mn9,H J mx9,H J mode9,H J n9,F neg9] rfl rfl 26 #[H J 0,M none 0 0,M none 0 0,H J 0,H J 0,H J 0,H J 0,F false] (heap_alloc_new w4 _) sizeRe rfl (row_all _ _ _ _ _ _ _ _ _ _ _ _) ?_;have hbx:=box_store (W0:=wr) (heap_alloc_new w4 _) KA.o K4.o.size (QO.o.keep (Keeps.a1 w4 _)) QT.o (fun b hb=> by have:=QO.o.block_lt b hb;omega);obtain ⟨qq,VV,hVe,h1,h2,h3,h4⟩:=hbx;rw [←hVe];have HBX:=gi (And.intro h1 (And.intro h2 (And.intro h3 h4)));refine hK.out _ _ ⟨⟨h3.c d0,h3.c d1,h3.c d2,h3.c d3,h3.c d4,h3.c d5,h3.c d6,h3.c d7⟩,h3.c hcl⟩ (fun hHeld=> ?_);clear hK K hVe h1 h2 h3 h4;try go_frame
     refine tk 12 ?_;refine wd ?_;go_wp2;go_meet;exact ⟨w4.heap.size,er,qq,VV,rfl,rfl,rfl,HBX.o.1,HBX.o.2.1,HBX.o.2.2.1,HBX.o.2.2.2⟩
    ·go_simp;have KA:=gi (K0.o.alloc (.cells #[H J 0,M none 0 0,M none 0 0,H J 0,H J 0,H J 0,H J 0,F false] 26));refine hK.out _ _ (kz.o _ KA.o) fun hHeld=> ?_;clear hK K;try go_frame
     refine j6 6 fun K hK=> ?_;go_simp;refine Calls.mono (HATW.o _ KA.o) ?_;rintro ee w4 ⟨q,rfl,hqt,hqo,hk4,hqf⟩;obtain ⟨op9,sa9,sc9,set9,ka9,kc9,kids9,mn9,mx9,mode9,n9,neg9⟩:=q;obtain ⟨er,her⟩:∃ er:Int,er=(if TT.isSome then 0 else 7):=⟨_,rfl⟩;rw [←her];simp only [MRe.val];have QT:=gi hqt;have QO:=gi hqo;have K4:=gi (KA.o.trans hk4);have hz7:=hk4.heap (heap_alloc_new wr.drew (.cells #[H J 0,M none 0 0,M none 0 0,H J 0,H J 0,H J 0,H J 0,F false] 26)) (by simp);have hz7:w4.heap[wr.heap.size]? =some (.cells #[H J 0,M none 0 0,M none 0 0,H J 0,H J 0,H J 0,H J 0,F false] 26 (0,0)):=hz7;have HZ7:=gi hz7;have QF:=gi (show ∀ b∈MRe.blocks (.node op9 sa9 sc9 set9 ka9 kc9 kids9 mn9 mx9 mode9 n9 neg9),b≠wr.heap.size from fun b hb=> by
      rcases hqf b hb with h | h
      ·have h0:=HOY.o.block_lt b h;have h1:=K3.o.size;have h2:=KP.o.size;omega
      ·have h:wr.heap.size + 1≤b:=by simpa using h
       omega)
     clear hqt hqo hk4 hqf her hz7;refine hK.out _ _ (kz.o _ K4.o) fun hHeld=> ?_;clear hK K;try go_frame
     refine tk 7 ?_;refine tk 8 ?_;refine tk 9 ?_;refine j6 11 fun K hK=> ?_;refine wp_store_row 26 (.tmp 12) (.tmp 45) rfl wr.heap.size #[H J op9,M sa9 set9.length sc9,M ka9 kids9.length kc9,H J mn9,H J mx9,H J mode9,H J n9,F neg9] rfl rfl 26 #[H J 0,M none 0 0,M none 0 0,H J 0,H J 0,H J 0,H J 0,F false] HZ7.o sizeRe rfl (row_all _ _ _ _ _ _ _ _ _ _ _ _) ?_;have hbx:=box_store (W0:=wr) HZ7.o K4.o (Nat.le_refl _) QO.o QT.o QF.o;obtain ⟨qq,VV,hVe,h1,h2,h3,h4⟩:=hbx;rw [←hVe];have HBX:=gi (And.intro h1 (And.intro h2 (And.intro h3 h4)));refine hK.out _ _ ⟨⟨h3.c d0,h3.c d1,h3.c d2,h3.c d3,h3.c d4,h3.c d5,h3.c d6,h3.c d7⟩,h3.c hcl⟩ (fun hHeld=> ?_);clear hK K hVe h1 h2 h3 h4;try go_frame
     refine tk 12 ?_;refine wd ?_;go_wp2;go_meet;exact ⟨wr.heap.size,er,qq,VV,rfl,rfl,rfl,HBX.o.1,HBX.o.2.1,HBX.o.2.2.1,HBX.o.2.2.2⟩
   case rest=>
    obtain ⟨g12,er,q,V,rfl,rfl,rfl,hqt,hqo,hkV,hg12⟩:=hcut;have HQW:=gi (show q.tree.WF∧q.tree.bulk≤12000 by rw [hqt];exact HTT.o);have KVV:=gi (KP.o.trans hkV);have HQO:=gi hqo;obtain ⟨q0,hq0⟩:∃ q0,q0=q:=⟨_,rfl⟩;rw [←hq0] at HQW HQO;have Q0:=gi hq0;obtain ⟨op9,sa9,sc9,set9,ka9,kc9,kids9,mn9,mx9,mode9,n9,neg9⟩:=q;have HG12:=gi hg12;clear hqt hqo hkV hq0 hg12 hcl d0 d1 d2 d3 d4 d5 d6 d7 hk0 hk1;go_wp2
    go_loopw [14,15,16,17,18] (fun r _ _ _ _ wl=> ∃ t:Nat,t≤19∧r=H J ((t:Int) - 1)∧Keeps [] V wl) (fun r _ _ _ _ _=> 19 - (intOf r + 1).toNat)
    case atStart=> exact ⟨0,by omega,rfl,Keeps.refl _ _⟩
    case round=>
     obtain ⟨t,htt,rfl,hkl⟩:=hrel;have KL:=gi hkl;obtain ⟨g0,g1,g2,g3,g4,g5,g6,g7⟩:=row_cells (v0:=H J op9) (v1:=M sa9 set9.length sc9) (v2:=M ka9 kids9.length kc9) (v3:=H J mn9) (v4:=H J mx9) (v5:=H J mode9) (v6:=H J n9) (v7:=F neg9) (hkl.h HG12.o);clear hkl
     by_cases htl:t < 19
     ·obtain ⟨r,hr⟩:∃ r:Int,r=(t:Int) - 1:=⟨_,rfl⟩;have hri:r < 18:=by omega
      have hw1:IntKind.i64.wrap (r + 1)=r + 1:=IntWalk.i64_in _ (by omega);have HRT:=gi hr;have HPW:=papply_all r (.node op9 sa9 sc9 set9 ka9 kc9 kids9 mn9 mx9 mode9 n9 neg9) wr (by rw [←Q0.o];exact HQO.o.keep KL.o) (by rw [←Q0.o];exact HQW.o.1) (by rw [←Q0.o];exact HQW.o.2);have HRW:=fun (W:World) (h:Keeps [] wr W)=> rapply_all r (by omega) (.node op9 sa9 sc9 set9 ka9 kc9 kids9 mn9 mx9 mode9 n9 neg9) W (by rw [←Q0.o];exact HQO.o.keep (KL.o.trans h)) (by rw [←Q0.o];exact HQW.o.1) (by rw [←Q0.o];exact HQW.o.2);obtain ⟨O,hO⟩:∃ O,O=ruleI r (MRe.tree (.node op9 sa9 sc9 set9 ka9 kc9 kids9 mn9 mx9 mode9 n9 neg9)):=⟨_,rfl⟩;have HOB:=gi (show (O.getD .nil).bulk≤100000 by rw [hO];exact ruleI_bulk (by rw [←Q0.o];exact HQW.o.2));rw [←hO] at HPW HRW;obtain ⟨bb,hbb⟩:∃ bb,bb=O.isSome:=⟨_,rfl⟩;have HBBO:=gi hbb;unfold ApplyPost at HPW;unfold AnyPost at HRW;rw [←hbb] at HPW;simp only [←hbb] at HRW;obtain ⟨TO,hTO⟩:∃ TO,TO=O.getD .nil:=⟨_,rfl⟩;rw [←hTO] at HPW HOB;simp only [←hTO] at HRW;simp only [MRe.val] at HPW HRW;have HPW:=gi HPW;have HRW:=gi HRW;rw [←hr];clear hO hbb hTO hr;go_wp2_with fail
      refine Calls.mono HPW.o ?_;rintro ee w5 ⟨m5,rfl,ht5,ho5,hk5,_⟩;have T5:=gi ht5;have O5:=gi ho5;have K5:=gi hk5;obtain ⟨x5,hx5⟩:∃ x5,x5=m5:=⟨_,rfl⟩;rw [←hx5] at T5 O5;have X5:=gi hx5;obtain ⟨op5,sa5,sc5,set5,ka5,kc5,kids5,mn5,mx5,mode5,n5,neg5⟩:=m5;dsimp only;have hc8:=hk5.c8 g0 g1 g2 g3 g4 g5 g6 g7;clear g0 g1 g2 g3 g4 g5 g6 g7;obtain ⟨g0,g1,g2,g3,g4,g5,g6,g7⟩:=hc8;clear ht5 ho5 hk5 hx5;go_upto_region 11 with fail
      obtain ⟨W6,hW6⟩:∃ W6,W6=w5.alloc (.cells #[H J op5,M sa5 set5.length sc5,M ka5 kids5.length kc5,H J mn5,H J mx5,H J mode5,H J n5,F neg5] 26):=⟨_,rfl⟩;obtain ⟨G15,hG15⟩:∃ G15,G15=w5.heap.size:=⟨_,rfl⟩;have hk6:Keeps [] w5 W6:=by rw [hW6];exact Keeps.a1 _ _
      have H15:=gi (show W6.heap[G15]? =some (.cells #[H J op5,M sa5 set5.length sc5,M ka5 kids5.length kc5,H J mn5,H J mx5,H J mode5,H J n5,F neg5] 26 (0,0)) by rw [hW6,hG15];exact heap_alloc_new w5 _);rw [←hW6,←hG15];have K6:=gi (K5.o.trans hk6);have O6:=gi (O5.o.keep hk6);have hc8:=hk6.c8 g0 g1 g2 g3 g4 g5 g6 g7;clear g0 g1 g2 g3 g4 g5 g6 g7;obtain ⟨g0,g1,g2,g3,g4,g5,g6,g7⟩:=hc8;clear hW6 hG15 hk6;go_wp2_with fail
      refine Calls.mono (HRW.o _ K6.o) ?_;rintro ee w7 ⟨m7,rfl,ht7,ho7,hk7,_⟩;have T7:=gi ht7;have O7:=gi ho7;have K7:=gi hk7;have K67:=gi (K6.o.trans hk7);obtain ⟨x7,hx7⟩:∃ x7,x7=m7:=⟨_,rfl⟩;rw [←hx7] at T7 O7;have X7:=gi hx7;obtain ⟨op7,sa7,sc7,set7,ka7,kc7,kids7,mn7,mx7,mode7,n7,neg7⟩:=m7;dsimp only;clear ht7 ho7 hk7 hx7 g0 g1 g2 g3 g4 g5 g6 g7;go_upto_region 12 with fail
      obtain ⟨W8,hW8⟩:∃ W8,W8=w7.alloc (.cells #[H J op7,M sa7 set7.length sc7,M ka7 kids7.length kc7,H J mn7,H J mx7,H J mode7,H J n7,F neg7] 26):=⟨_,rfl⟩;obtain ⟨G17,hG17⟩:∃ G17,G17=w7.heap.size:=⟨_,rfl⟩;have hk8:Keeps [] w7 W8:=by rw [hW8];exact Keeps.a1 _ _
      have h17:W8.heap[G17]? =some (.cells #[H J op7,M sa7 set7.length sc7,M ka7 kids7.length kc7,H J mn7,H J mx7,H J mode7,H J n7,F neg7] 26 (0,0)):=by rw [hW8,hG17];exact heap_alloc_new w7 _
      have h15:=(K7.o.trans hk8).h H15.o;rw [←hW8,←hG17];have KW8:=gi ((KL.o.trans K67.o).trans hk8);have HCM:=same0 (.node op5 sa5 sc5 set5 ka5 kc5 kids5 mn5 mx5 mode5 n5 neg5) (.node op7 sa7 sc7 set7 ka7 kc7 kids7 mn7 mx7 mode7 n7 neg7) TO W8 (by rw [←X5.o];exact O6.o.keep (K7.o.trans hk8)) (by rw [←X7.o];exact O7.o.keep hk8) (by rw [←X5.o];exact T5.o) (by rw [←X7.o];exact T7.o) HOB.o;simp only [MRe.val] at HCM;have HCM:=gi HCM;obtain ⟨e0,e1,e2,e3,e4,e5,e6,e7⟩:=row_cells h15;obtain ⟨f0,f1,f2,f3,f4,f5,f6,f7⟩:=row_cells h17;have hbn:(bb !=bb)=false:=by cases bb <;> rfl
      clear hW8 hG17 hk8 h17 h15;go_wp2_with fail
      refine Calls.mono HCM.o ?_;rintro ee w9 ⟨rfl,hk9⟩;have K9:=gi (KW8.o.trans hk9);clear hk9 e0 e1 e2 e3 e4 e5 e6 e7 f0 f1 f2 f3 f4 f5 f6 f7;go_wp2;go_roundw
      case rel=> exact ⟨t + 1,by omega,by rw [HRT.o];congr 1;omega,K9.o⟩
      case measure=> have:=HRT.o;simp [intOf];omega
     ·obtain rfl:t=19:=by omega
      have K4:=gi (KVV.o.trans KL.o);clear g0 g1 g2 g3 g4 g5 g6 g7;go_wp2;go_roundw
      case rel=> exact ⟨k + 1,by omega,by go_num,K4.o⟩
      case measure=> simp [intOf];omega
  ·obtain rfl:k=ps.length:=by omega
   go_upto_region 14 with fail
   have hq:=aroundF_bd other 1099511627776 (by omega);have HAR:=gi (fun W=> around_any other 1099511627776 W (by omega) HOTH.o);obtain ⟨aq,haq⟩:∃ aq,aq=aroundF other 1099511627776:=⟨_,rfl⟩;rw [←haq] at hq HAR;have hw17:IntKind.i64.wrap (17 + aq)=17 + aq:=IntWalk.i64_in _ (by omega);have HAP:=gi (fun (W:World)=> (show Calls Tryz.prog 11 #[H J (17 + aq),.agg #[H J op1,M sa1 set1.length sc1,M ka1 kids1.length kc1,H J mn1,H J mx1,H J mode1,H J n1,F neg1]] W (ApplyPost W none) from papply_none (17 + aq) (by omega) (.node op1 sa1 sc1 set1 ka1 kc1 kids1 mn1 mx1 mode1 n1 neg1) W));have K0:=gi ((Keeps.refl [] wr).drew);clear haq hq
   go_cut [19,20] from 72 to 80 (fun _ s20 wx=> ∃ V:World,s20=F false∧V=wx∧Keeps [] wr V)
   case first=>
    refine rg (S:=fun w'=> (w'.cell? ⟨G9,0,none⟩=some (H J op1)∧w'.cell? ⟨G9,1,none⟩=some (M sa1 set1.length sc1)∧w'.cell? ⟨G9,2,none⟩=some (M ka1 kids1.length kc1)∧w'.cell? ⟨G9,3,none⟩=some (H J mn1)∧w'.cell? ⟨G9,4,none⟩=some (H J mx1)∧w'.cell? ⟨G9,5,none⟩=some (H J mode1)∧w'.cell? ⟨G9,6,none⟩=some (H J n1)∧w'.cell? ⟨G9,7,none⟩=some (F neg1))) (fun _ k=> ⟨k.c d0,k.c d1,k.c d2,k.c d3,k.c d4,k.c d5,k.c d6,k.c d7⟩) fun kz hHeld=> ?_;refine tk 0 ?_;refine tk 3 ?_;refine tk 4 ?_;refine j7 1 9 (fun K hK=> ?_) fun K hK=> ?_
    ·go_simp;refine Calls.mono (HAR.o _) ?_;rintro ee wz ⟨rfl,rfl⟩;refine hK.out _ _ (kz.o _ K0.o) fun hHeld=> ?_;clear hK K;try go_frame
     refine tk 2 ?_;refine j7 5 9 (fun K hK=> ?_) fun K hK=> ?_
     ·go_simp;refine Calls.mono (HAP.o _) ?_;rintro ee w4 ⟨q,rfl,hqt,hqo,hk4,hqf⟩;obtain ⟨op9,sa9,sc9,set9,ka9,kc9,kids9,mn9,mx9,mode9,n9,neg9⟩:=q;simp only [MRe.val];have QT:=gi hqt;have QO:=gi hqo;have K4:=gi (K0.o.trans hk4);have KA:=gi (K4.o.trans (Keeps.a1 w4 (.cells #[H J 0,M none 0 0,M none 0 0,H J 0,H J 0,H J 0,H J 0,F false] 26)));clear hqt hqo hk4 hqf;refine hK.out _ _ (kz.o _ K4.o) fun hHeld=> ?_;clear hK K;try go_frame
      refine tk 6 ?_;refine tk 7 ?_;refine tk 8 ?_;refine j6 9 fun K hK=> ?_;go_simp;refine hK.out _ _ (kz.o _ KA.o) fun hHeld=> ?_;clear hK K;try go_frame
      refine j6 10 fun K hK=> ?_;refine wp_store_row 26 (.tmp 19) (.tmp 79) rfl w4.heap.size #[H J op9,M sa9 set9.length sc9,M ka9 kids9.length kc9,H J mn9,H J mx9,H J mode9,H J n9,F neg9] rfl rfl 26 #[H J 0,M none 0 0,M none 0 0,H J 0,H J 0,H J 0,H J 0,F false] (heap_alloc_new w4 _) sizeRe rfl (row_all _ _ _ _ _ _ _ _ _ _ _ _) ?_;have hbx:=box_store (W0:=wr) (heap_alloc_new w4 _) KA.o K4.o.size (QO.o.keep (Keeps.a1 w4 _)) QT.o (fun b hb=> by have:=QO.o.block_lt b hb;omega);obtain ⟨qq,VV,hVe,h1,h2,h3,h4⟩:=hbx;rw [←hVe];have HBX:=gi h3;refine hK.out _ _ ⟨h3.c d0,h3.c d1,h3.c d2,h3.c d3,h3.c d4,h3.c d5,h3.c d6,h3.c d7⟩ (fun hHeld=> ?_);clear hK K hVe h1 h2 h3 h4;try go_frame
      refine tk 11 ?_;refine wd ?_;go_wp2;go_meet;exact ⟨VV,rfl,rfl,HBX.o⟩
     ·go_simp;have KA:=gi (K0.o.alloc (.cells #[H J 0,M none 0 0,M none 0 0,H J 0,H J 0,H J 0,H J 0,F false] 26));refine hK.out _ _ (kz.o _ KA.o) fun hHeld=> ?_;clear hK K;try go_frame
      refine j6 5 fun K hK=> ?_;go_simp;refine Calls.mono (HAP.o _) ?_;rintro ee w4 ⟨q,rfl,hqt,hqo,hk4,hqf⟩;obtain ⟨op9,sa9,sc9,set9,ka9,kc9,kids9,mn9,mx9,mode9,n9,neg9⟩:=q;simp only [MRe.val];have QT:=gi hqt;have QO:=gi hqo;have K4:=gi (KA.o.trans hk4);have hz7:=hk4.heap (heap_alloc_new wr.drew (.cells #[H J 0,M none 0 0,M none 0 0,H J 0,H J 0,H J 0,H J 0,F false] 26)) (by simp);have hz7:w4.heap[wr.heap.size]? =some (.cells #[H J 0,M none 0 0,M none 0 0,H J 0,H J 0,H J 0,H J 0,F false] 26 (0,0)):=hz7;have HZ7:=gi hz7;have QF:=gi (show ∀ b∈MRe.blocks (.node op9 sa9 sc9 set9 ka9 kc9 kids9 mn9 mx9 mode9 n9 neg9),b≠wr.heap.size from fun b hb=> by
       have h:=hqf b hb;have h:wr.heap.size + 1≤b:=by simpa using h
       omega)
      clear hqt hqo hk4 hqf hz7;refine hK.out _ _ (kz.o _ K4.o) fun hHeld=> ?_;clear hK K;try go_frame
      refine tk 6 ?_;refine tk 7 ?_;refine tk 8 ?_;refine j6 10 fun K hK=> ?_;refine wp_store_row 26 (.tmp 19) (.tmp 79) rfl wr.heap.size #[H J op9,M sa9 set9.length sc9,M ka9 kids9.length kc9,H J mn9,H J mx9,H J mode9,H J n9,F neg9] rfl rfl 26 #[H J 0,M none 0 0,M none 0 0,H J 0,H J 0,H J 0,H J 0,F false] HZ7.o sizeRe rfl (row_all _ _ _ _ _ _ _ _ _ _ _ _) ?_;have hbx:=box_store (W0:=wr) HZ7.o K4.o (Nat.le_refl _) QO.o QT.o QF.o;obtain ⟨qq,VV,hVe,h1,h2,h3,h4⟩:=hbx;rw [←hVe];have HBX:=gi h3;refine hK.out _ _ ⟨h3.c d0,h3.c d1,h3.c d2,h3.c d3,h3.c d4,h3.c d5,h3.c d6,h3.c d7⟩ (fun hHeld=> ?_);clear hK K hVe h1 h2 h3 h4;try go_frame
      refine tk 11 ?_;refine wd ?_;go_wp2;go_meet;exact ⟨VV,rfl,rfl,HBX.o⟩
    ·go_simp;have KA:=gi (K0.o.alloc (.cells #[H J 0,M none 0 0,M none 0 0,H J 0,H J 0,H J 0,H J 0,F false] 26));refine hK.out _ _ (kz.o _ KA.o) fun hHeld=> ?_;clear hK K;try go_frame
     refine j6 1 fun K hK=> ?_;go_simp;refine Calls.mono (HAR.o _) ?_;rintro ee wz ⟨rfl,rfl⟩;refine hK.out _ _ (kz.o _ KA.o) fun hHeld=> ?_;clear hK K;try go_frame
     refine tk 2 ?_;refine j6 5 fun K hK=> ?_;go_simp;refine Calls.mono (HAP.o _) ?_;rintro ee w4 ⟨q,rfl,hqt,hqo,hk4,hqf⟩;obtain ⟨op9,sa9,sc9,set9,ka9,kc9,kids9,mn9,mx9,mode9,n9,neg9⟩:=q;simp only [MRe.val];have QT:=gi hqt;have QO:=gi hqo;have K4:=gi (KA.o.trans hk4);have hz7:=hk4.heap (heap_alloc_new wr.drew (.cells #[H J 0,M none 0 0,M none 0 0,H J 0,H J 0,H J 0,H J 0,F false] 26)) (by simp);have hz7:w4.heap[wr.heap.size]? =some (.cells #[H J 0,M none 0 0,M none 0 0,H J 0,H J 0,H J 0,H J 0,F false] 26 (0,0)):=hz7;have HZ7:=gi hz7;have QF:=gi (show ∀ b∈MRe.blocks (.node op9 sa9 sc9 set9 ka9 kc9 kids9 mn9 mx9 mode9 n9 neg9),b≠wr.heap.size from fun b hb=> by
      have h:=hqf b hb;have h:wr.heap.size + 1≤b:=by simpa using h
      omega)
     clear hqt hqo hk4 hqf hz7;refine hK.out _ _ (kz.o _ K4.o) fun hHeld=> ?_;clear hK K;try go_frame
     refine tk 6 ?_;refine tk 7 ?_;refine tk 8 ?_;refine j6 10 fun K hK=> ?_;refine wp_store_row 26 (.tmp 19) (.tmp 79) rfl wr.heap.size #[H J op9,M sa9 set9.length sc9,M ka9 kids9.length kc9,H J mn9,H J mx9,H J mode9,H J n9,F neg9] rfl rfl 26 #[H J 0,M none 0 0,M none 0 0,H J 0,H J 0,H J 0,H J 0,F false] HZ7.o sizeRe rfl (row_all _ _ _ _ _ _ _ _ _ _ _ _) ?_;have hbx:=box_store (W0:=wr) HZ7.o K4.o (Nat.le_refl _) QO.o QT.o QF.o;obtain ⟨qq,VV,hVe,h1,h2,h3,h4⟩:=hbx;rw [←hVe];have HBX:=gi h3;refine hK.out _ _ ⟨h3.c d0,h3.c d1,h3.c d2,h3.c d3,h3.c d4,h3.c d5,h3.c d6,h3.c d7⟩ (fun hHeld=> ?_);clear hK K hVe h1 h2 h3 h4;try go_frame
     refine tk 11 ?_;refine wd ?_;go_wp2;go_meet;exact ⟨VV,rfl,rfl,HBX.o⟩
   case rest=>
    obtain ⟨V,rfl,rfl,hkV⟩:=hcut;have KV:=gi (((KY.o.trans K3.o).trans KP.o).trans hkV);clear hkV d0 d1 d2 d3 d4 d5 d6 d7;go_wp2_with fail
    refine Calls.mono (names2_any V) ?_;rintro ee w4 ⟨gn,cn,rfl,hk4,hsn⟩;have K4:=gi (KV.o.trans hk4);have HSN:=gi hsn;clear hk4 hsn;go_wp2_with fail
    refine Calls.mono (rnames_any w4) ?_;rintro ee w5 ⟨gm,cm,rfl,hk5,hsm⟩;have K5:=gi (K4.o.trans hk5);have HSN5:=gi (HSN.o.keep hk5 (by simp));have HSM:=gi hsm;clear hk5 hsm;go_wp2
    go_loopw [23] (fun i wl=> ∃ k:Nat,k≤17∧i=H J k∧Keeps [] w5 wl) (fun i _=> 17 - (intOf i).toNat)
    case atStart=> exact ⟨0,Nat.zero_le _,rfl,Keeps.refl _ _⟩
    case round=>
     obtain ⟨k,hkk,rfl,hkl⟩:=hrel;have KL:=gi hkl
     by_cases hlt:k < 17
     ·obtain ⟨b,hb⟩:=names_get k hlt;have a0:=names_cell (HSN5.o.keep hkl (by simp)) hb;have a1:=names_cell (HSM.o.keep hkl (by simp)) hb;have hk0:(0:Int)≤(k:Int):=by omega
      have hk1:(k:Int) < 17:=by omega
      clear hkl hb;go_upto_region 22 with fail
      refine rg (S:=fun w'=> w'.cell? ⟨gn,k,none⟩=some (.string b)∧w'.cell? ⟨gm,k,none⟩=some (.string b)) (fun _ k=> ⟨k.c a0,k.c a1⟩) fun kz hHeld=> ?_;refine tk 0 ?_;refine tk 1 ?_;refine tk 2 ?_;refine tk 3 ?_;refine tk 4 ?_;refine tk 5 ?_;refine tk 6 ?_;refine tk 7 ?_;refine tk 8 ?_;refine wd ?_;clear hHeld a0 a1;go_wp2;go_roundw
      case rel=> exact ⟨k + 1,by omega,by go_num,KL.o.drew⟩
      case measure=> simp [intOf];omega
     ·obtain rfl:k=17:=by omega
      have K6:=gi (K5.o.trans KL.o);clear hkl;go_wp2_with fail
      refine Calls.mono (lives_any _) ?_;rintro ee w6 ⟨rfl,hk6⟩;have K7:=gi (K6.o.trans hk6);clear hk6;go_wp2;go_ret;exact ⟨rfl,K7.o⟩
end Go.Proofs.YtjnlkjlbejelgaaGreat
