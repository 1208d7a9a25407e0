/- Part 35 of the proof. No condition: every lemma says its own. -/
import Derived.Test.YtjnlkjlbejelgaaGreatLar
namespace Go.Proofs.YtjnlkjlbejelgaaGreat
open Go.RowKit
open Go.Value renaming int→H,slice→M,bool→F
open Go.IntKind renaming i64→J
set_option maxRecDepth 100000
set_option maxHeartbeats 16000000
theorem rput_any (path:List Int):∀ (m p:MRe) (pa:Option Addr) (pc:Nat) (w:World),m.OK w→p.OK w→IntsIn w pa path→path.length≤pc→path.length≤1000000→m.tree.bulk≤1000000→
  Calls Tryz.prog 42 #[m.val,M pa path.length pc,p.val] w (AtPost w (m.blocks ++ p.blocks) 7 (putT m.tree path p.tree)):=by
 obtain ⟨i0,hi0,hz0,hz1,hz2⟩:=info_parts infoRe;have Hi:=gi hi0;have Hz0:=gi hz0;have Hz1:=gi hz1;have Hz2:=gi hz2;clear hi0 hz0 hz1 hz2
 induction path with
 | nil=>
  intro m p pa pc w k1 k2 hin hc hl hb;have HLT:=gi (show ∀ b∈m.blocks ++ p.blocks,b < w.heap.size from fun b hb=> by
   rcases List.mem_append.1 hb with h | h
   ·exact k1.block_lt b h
   ·exact k2.block_lt b h)
  obtain ⟨R,hR0⟩:∃ R,R=putT m.tree [] p.tree:=⟨_,rfl⟩;rw [←hR0];obtain ⟨src,hsrc⟩:∃ src,src=m.blocks ++ p.blocks:=⟨_,rfl⟩;have HSRC:=gi (show ∀ b∈p.blocks,b∈src from fun b hb=> by rw [hsrc];exact List.mem_append_right _ hb);rw [←hsrc] at HLT ⊢;obtain ⟨op1,sa1,sc1,set1,ka1,kc1,kids1,mn1,mx1,mode1,n1,neg1⟩:=m;obtain ⟨op2,sa2,sc2,set2,ka2,kc2,kids2,mn2,mx2,mode2,n2,neg2⟩:=p;have HR:=gi (show R=some (MRe.tree (.node op2 sa2 sc2 set2 ka2 kc2 kids2 mn2 mx2 mode2 n2 neg2)) by rw [hR0,putT]);obtain ⟨B,hBe⟩:∃ B,B=w.heap.size:=⟨_,rfl⟩;obtain ⟨X,hXe⟩:∃ X,X=((w.alloc (.cells #[H J op1,M sa1 set1.length sc1,M ka1 kids1.length kc1,H J mn1,H J mx1,H J mode1,H J n1,F neg1] 26)).alloc (.cells #[H J op2,M sa2 set2.length sc2,M ka2 kids2.length kc2,H J mn2,H J mx2,H J mode2,H J n2,F neg2] 26)).alloc (.cells #[H J 0,M none 0 0,M none 0 0,H J 0,H J 0,H J 0,H J 0,F false] 26):=⟨_,rfl⟩;have hkX:Keeps [] w X:=by rw [hXe];exact Keeps.a3 _ _ _ _
  have hb2:X.heap[B + 1]? =some (.cells #[H J op2,M sa2 set2.length sc2,M ka2 kids2.length kc2,H J mn2,H J mx2,H J mode2,H J n2,F neg2] 26 (0,0)):=by rw [hXe,hBe];exact (Keeps.a1 _ _).heap (heap_alloc2_new w _ _) (by simp)
  have hz:X.heap[B + 2]? =some (.cells #[H J 0,M none 0 0,M none 0 0,H J 0,H J 0,H J 0,H J 0,F false] 26 (0,0)):=by rw [hXe,hBe];have h:=heap_alloc_new ((w.alloc (.cells #[H J op1,M sa1 set1.length sc1,M ka1 kids1.length kc1,H J mn1,H J mx1,H J mode1,H J n1,F neg1] 26)).alloc (.cells #[H J op2,M sa2 set2.length sc2,M ka2 kids2.length kc2,H J mn2,H J mx2,H J mode2,H J n2,F neg2] 26)) (.cells #[H J 0,M none 0 0,M none 0 0,H J 0,H J 0,H J 0,H J 0,F false] 26);simpa using h
  have HXE:=gi hXe;have HBE:=gi hBe;have HKX:=gi hkX;have HZ:=gi hz;have HO:=gi (k2.keep hkX);obtain ⟨d0,d1,d2,d3,d4,d5,d6,d7⟩:=row_cells hb2;obtain ⟨z0,z1,z2,z3,z4,z5,z6,z7,zf⟩:=zero_cells hz;clear hR0 hin k1 k2 hc hl hb hBe hXe hkX hb2 hz hsrc;obtain ⟨H1,H2,H3,H4⟩:=js (rule_storeG (by rw [HBE.o];omega:w.heap.size≤B + 2) HKX.o (Keeps.refl [] X) HZ.o HO.o (From.of_mem HSRC.o) HLT.o);simp only [MRe.val,List.length_nil];go_enter Tryz.func42,Tryz.ntmps42
  go_upto_region 1 with fail
  rw [←HXE.o,←HBE.o];go_wp2;refine rt H1.o ?_;exact AtPost.of_some (.node op2 sa2 sc2 set2 ka2 kc2 kids2 mn2 mx2 mode2 n2 neg2) HR.o rfl H2.o H3.o H4.o
 | cons x r ih=>
  intro m p pa pc w k1 k2 hin hc hl hb;have HLT:=gi (show ∀ b∈m.blocks ++ p.blocks,b < w.heap.size from fun b hb=> by
   rcases List.mem_append.1 hb with h | h
   ·exact k1.block_lt b h
   ·exact k2.block_lt b h)
  have HIH:=gi ih;obtain ⟨R,hR0⟩:∃ R,R=putT m.tree (x::r) p.tree:=⟨_,rfl⟩;rw [←hR0];obtain ⟨src,hsrc⟩:∃ src,src=m.blocks ++ p.blocks:=⟨_,rfl⟩;have HSM:=gi (show ∀ b∈m.blocks,b∈src from fun b hb=> by rw [hsrc];exact List.mem_append_left _ hb);have HSP:=gi (show ∀ b∈p.blocks,b∈src from fun b hb=> by rw [hsrc];exact List.mem_append_right _ hb);rw [←hsrc] at HLT ⊢;obtain ⟨pb,po,rfl,hpx⟩:=hin (by simp);have p0:=hpx 0 (by simp);rw [Nat.add_zero,List.getD_cons_zero] at p0;have hlen:(x::r).length=r.length + 1:=rfl;rw [hlen] at hc hl ⊢;have HPB:=gi (show pb < w.heap.size from World.block_lt_of_cell? _ _ p0);have HPT:=gi (hin.tail (pc:=pc) hc);have HPO:=gi k2;obtain ⟨P,hP⟩:∃ P,P=p:=⟨_,rfl⟩;obtain ⟨PT,hPT⟩:∃ PT,PT=p.tree:=⟨_,rfl⟩;rw [←hP] at HPO HSP;rw [←hPT] at hR0;obtain ⟨op1,sa1,sc1,set1,ka1,kc1,kids1,mn1,mx1,mode1,n1,neg1⟩:=m;have HBK:=gi (kids_bulk hb);replace hR0:R=if 0≤x∧x < (MRe.trees kids1).length then (putT ((MRe.trees kids1).getD x.toNat .nil) r PT).map fun k=> .node op1 set1 ((MRe.trees kids1).take x.toNat ++ (k::(MRe.trees kids1).drop (x.toNat + 1))) mn1 mx1 mode1 n1 neg1 else none:=by rw [hR0,putT];rfl
  rw [MRe.trees_length] at hR0;have hcap:=k1.nodes.cap;have hle:=k1.nodes.le;unfold maxLen at hcap;have HK:=gi k1.kids;have HSPN:=gi k1.spans;have HPTT:=gi (show P.tree=PT by rw [hP,hPT]);have HPV:=gi (show P.val=p.val by rw [hP]);obtain ⟨op2,sa2,sc2,set2,ka2,kc2,kids2,mn2,mx2,mode2,n2,neg2⟩:=p;obtain ⟨B,hBe⟩:∃ B,B=w.heap.size:=⟨_,rfl⟩;obtain ⟨X,hXe⟩:∃ X,X=((w.alloc (.cells #[H J op1,M sa1 set1.length sc1,M ka1 kids1.length kc1,H J mn1,H J mx1,H J mode1,H J n1,F neg1] 26)).alloc (.cells #[H J op2,M sa2 set2.length sc2,M ka2 kids2.length kc2,H J mn2,H J mx2,H J mode2,H J n2,F neg2] 26)).alloc (.cells #[H J 0,M none 0 0,M none 0 0,H J 0,H J 0,H J 0,H J 0,F false] 26):=⟨_,rfl⟩;have hkX:Keeps [] w X:=by rw [hXe];exact Keeps.a3 _ _ _ _
  have hb1:X.heap[B]? =some (.cells #[H J op1,M sa1 set1.length sc1,M ka1 kids1.length kc1,H J mn1,H J mx1,H J mode1,H J n1,F neg1] 26 (0,0)):=by rw [hXe,hBe];exact (Keeps.a2 _ _ _).heap (heap_alloc_new w _) (by simp)
  have hb2:X.heap[B + 1]? =some (.cells #[H J op2,M sa2 set2.length sc2,M ka2 kids2.length kc2,H J mn2,H J mx2,H J mode2,H J n2,F neg2] 26 (0,0)):=by rw [hXe,hBe];exact (Keeps.a1 _ _).heap (heap_alloc2_new w _ _) (by simp)
  have hz:X.heap[B + 2]? =some (.cells #[H J 0,M none 0 0,M none 0 0,H J 0,H J 0,H J 0,H J 0,F false] 26 (0,0)):=by rw [hXe,hBe];have h:=heap_alloc_new ((w.alloc (.cells #[H J op1,M sa1 set1.length sc1,M ka1 kids1.length kc1,H J mn1,H J mx1,H J mode1,H J n1,F neg1] 26)).alloc (.cells #[H J op2,M sa2 set2.length sc2,M ka2 kids2.length kc2,H J mn2,H J mx2,H J mode2,H J n2,F neg2] 26)) (.cells #[H J 0,M none 0 0,M none 0 0,H J 0,H J 0,H J 0,H J 0,F false] 26);simpa using h
  have HXS:=gi (show B + 3≤X.heap.size by rw [hXe,hBe];simp);have HXE:=gi hXe;have HBE:=gi hBe;have HKX:=gi hkX;have HZ:=gi hz;have HB1:=gi hb1;obtain ⟨c0,c1,c2,c3,c4,c5,c6,c7⟩:=row_cells hb1;obtain ⟨d0,d1,d2,d3,d4,d5,d6,d7⟩:=row_cells hb2;have q0:=hkX.c p0;clear ih hpx hin p0 hlen hBe hXe hkX hb1 hb2 hz hsrc hP hPT k2;simp only [MRe.val]
  by_cases hx:0≤x∧x < kids1.length
  ·obtain ⟨hx0,hx1⟩:=hx;obtain ⟨i,rfl⟩:∃ i:Nat,x=(i:Int):=⟨x.toNat,by omega⟩;have hi:i < kids1.length:=by omega
   have hin0:¬ (kids1.length:Int)≤(i:Int):=by omega
   have hnn:¬ (i:Int) < 0:=by omega
   rw [if_pos ⟨hx0,hx1⟩,Int.toNat_natCast,show (MRe.trees kids1).getD i .nil=(kids1[i]'hi).tree by rw [List.getD_eq_getElem?_getD,List.getElem?_eq_getElem (by rw [MRe.trees_length];omega),Option.getD_some,trees_getElem]] at hR0;obtain ⟨b,off,rfl,hbb,hkx⟩:=k1.kids.nodes.kid (by omega);have hmi:kids1[i]'hi∈kids1:=List.getElem_mem hi;have HMI:=gi (show ∀ x∈(kids1[i]'hi).blocks,x∈src from fun x hx=> HSM.o x (blocks_kid hmi x hx));have HOI:=gi (k1.kid hmi);have hbi:=HBK.o.2.2 _ hmi;have hxi:=hkx i hi;have HBB:=gi hbb;obtain ⟨mi,hme⟩:∃ mi,mi=(kids1[i]'hi):=⟨_,rfl⟩;rw [←hme] at HMI HOI hxi hR0 hbi;obtain ⟨T,hT⟩:∃ T,T=putT mi.tree r PT:=⟨_,rfl⟩;rw [←hT] at hR0;have HR0:=gi hR0;have HCALL:=fun (W:World) (h:Keeps [] w W)=> HIH.o mi P (if pc=1 then some ⟨pb,po,none⟩ else some ⟨pb,po + 1,none⟩) (pc - 1) W (HOI.o.keep h) (HPO.o.keep h) (HPT.o.keepS h (fun _ _=> by simp)) (by omega) (by omega) hbi;rw [HPTT.o,←hT] at HCALL;rw [HPV.o] at HCALL;obtain ⟨src2,hsrc2⟩:∃ src2,src2=mi.blocks ++ P.blocks:=⟨_,rfl⟩;simp only [←hsrc2] at HCALL;have HSRC:=gi (show ∀ x∈src2,x∈src by
    rw [hsrc2];intro x hx
    rcases List.mem_append.1 hx with h | h
    ·exact HMI.o x h
    ·exact HSP.o x h)
   have hsl:∀ W:World,(Instr.sliceAt 22 (M (some ⟨pb,po,none⟩) (r.length + 1) pc) (some (H J 1)) none none).run Tryz.prog W=.ok (M (if pc=1 then some ⟨pb,po,none⟩ else some ⟨pb,po + 1,none⟩) r.length (pc - 1)) W:=by
    intro W;have q1:¬ ((r.length:Int) + 1 < 1):=by omega
    simp [go_sem,q1]
   obtain ⟨pa2,hpa2⟩:∃ pa2,pa2=(if pc=1 then some (⟨pb,po,none⟩:Addr) else some ⟨pb,po + 1,none⟩):=⟨_,rfl⟩;rw [←hpa2] at hsl;simp only [←hpa2] at HCALL;obtain ⟨op3,sa3,sc3,set3,ka3,kc3,kids3,mn3,mx3,mode3,n3,neg3⟩:=mi;have g:=hxi.node;obtain ⟨e0,e1,e2,e3,e4,e5,e6,e7⟩:=id g;obtain ⟨f0,f1,f2,f3,f4,f5,f6,f7⟩:=HKX.o.c8 e0 e1 e2 e3 e4 e5 e6 e7;simp only [MRe.val] at HCALL;have HCALL:=gi HCALL;clear g e0 e1 e2 e3 e4 e5 e6 e7 hkx hxi hT hsrc2 hR0 hpa2;have hin:i < kids1.length:=by omega
   have hl0:((r.length:Int) + 1==0)=false:=by simp;omega
   clear hme hbi hb k1 hbb hmi hi;go_enter Tryz.func42,Tryz.ntmps42
   go_upto_region 1 with fail
   rw [←HXE.o,←HBE.o];go_wp2_with fail
   refine rg (S:=fun w'=> w'.cell? ⟨B,2,none⟩=some (M (some ⟨b,off,none⟩) kids1.length kc1)∧w'.cell? ⟨pb,po,none⟩=some (H J i)) (fun _ k=> ⟨k.c c2,k.c q0⟩) fun kz hHeld=> ?_;refine tk 0 ?_;refine tk 1 ?_;refine tk 2 ?_;refine tk 3 ?_;refine tk 4 ?_;refine tk 5 ?_;refine tk 6 ?_;refine tk 7 ?_;refine tk 8 ?_;refine tk 9 ?_;refine tk 10 ?_;refine tk 11 ?_;refine tk 12 ?_;refine wd ?_;obtain ⟨W,hWe⟩:∃ W,W=X.drew:=⟨_,rfl⟩;rw [←hWe];have K3:=gi (show Keeps [] X W by rw [hWe];exact (Keeps.refl [] X).drew);have v2:=K3.o.c c2;have t0:=K3.o.c q0;obtain ⟨g0,g1,g2,g3,g4,g5,g6,g7⟩:=K3.o.c8 f0 f1 f2 f3 f4 f5 f6 f7;obtain ⟨e0,e1,e2,e3,e4,e5,e6,e7⟩:=K3.o.c8 d0 d1 d2 d3 d4 d5 d6 d7;clear hHeld hWe c0 c1 c2 c3 c4 c5 c6 c7 q0 f0 f1 f2 f3 f4 f5 f6 f7 d0 d1 d2 d3 d4 d5 d6 d7;have hd1:decide ((i:Int) < 0)=false:=by simp
   have hd2:decide (kids1.length≤i)=false:=by simp;exact hin
   simp only [hd1,hd2,Bool.or_self];go_upto_region 5 with fail
   clear hin0 hnn hd1 hd2
   go_cut [8,9] from 29 to 42 (fun s8 s9 wx=> ∃ (g8:Nat) (q:MRe) (V:World),V=wx∧s8=.pointer (some ⟨g8,0,none⟩)∧s9=H J (if T.isSome then 0 else 7)∧q.tree=T.getD .nil∧q.OK V∧Keeps [] W V∧V.heap[g8]? =some (.cells q.row.toArray 26 (0,0))∧W.heap.size≤g8∧From W.heap.size src q.blocks)
   case first=>
    refine rg (S:=fun w'=> (w'.cell? ⟨B,2,none⟩=some (M (some ⟨b,off,none⟩) kids1.length kc1)∧w'.cell? ⟨pb,po,none⟩=some (H J i))∧(w'.cell? ⟨b,off + i * 8,none⟩=some (H J op3)∧w'.cell? ⟨b,off + i * 8 + 1,none⟩=some (M sa3 set3.length sc3)∧w'.cell? ⟨b,off + i * 8 + 2,none⟩=some (M ka3 kids3.length kc3)∧w'.cell? ⟨b,off + i * 8 + 3,none⟩=some (H J mn3)∧w'.cell? ⟨b,off + i * 8 + 4,none⟩=some (H J mx3)∧w'.cell? ⟨b,off + i * 8 + 5,none⟩=some (H J mode3)∧w'.cell? ⟨b,off + i * 8 + 6,none⟩=some (H J n3)∧w'.cell? ⟨b,off + i * 8 + 7,none⟩=some (F neg3))∧(w'.cell? ⟨B + 1,0,none⟩=some (H J op2)∧w'.cell? ⟨B + 1,1,none⟩=some (M sa2 set2.length sc2)∧w'.cell? ⟨B + 1,2,none⟩=some (M ka2 kids2.length kc2)∧w'.cell? ⟨B + 1,3,none⟩=some (H J mn2)∧w'.cell? ⟨B + 1,4,none⟩=some (H J mx2)∧w'.cell? ⟨B + 1,5,none⟩=some (H J mode2)∧w'.cell? ⟨B + 1,6,none⟩=some (H J n2)∧w'.cell? ⟨B + 1,7,none⟩=some (F neg2))) (fun _ k=> ⟨⟨k.c v2,k.c t0⟩,⟨k.c g0,k.c g1,k.c g2,k.c g3,k.c g4,k.c g5,k.c g6,k.c g7⟩,⟨k.c e0,k.c e1,k.c e2,k.c e3,k.c e4,k.c e5,k.c e6,k.c e7⟩⟩) fun kz hHeld=> ?_;refine tk 0 ?_;refine tk 1 ?_;refine tk 2 ?_;refine tk 3 ?_;refine tk 4 ?_;refine tk 5 ?_;refine tk 6 ?_;refine tk 7 ?_;refine tk 8 ?_;refine tk 9 ?_;refine j7 10 14 (fun K hK=> ?_) fun K hK=> ?_
    ·go_simp;refine Calls.mono (HCALL.o _ (HKX.o.trans K3.o.drew)) ?_;rintro ee w3 ⟨q,rfl,hqt,hqo,hk3,hqf⟩;have QT:=gi hqt;have QO:=gi hqo;have QF:=gi hqf;obtain ⟨q0,hq0⟩:∃ q0,q0=q:=⟨_,rfl⟩;rw [←hq0] at QT QO QF;have Q0:=gi hq0;obtain ⟨op9,sa9,sc9,set9,ka9,kc9,kids9,mn9,mx9,mode9,n9,neg9⟩:=q;obtain ⟨er,her⟩:∃ er:Int,er=(if T.isSome then 0 else 7):=⟨_,rfl⟩;simp only [MRe.val,←her];have HER:=gi her;have K8:=gi (((Keeps.refl [] W).drew).trans hk3);have KA:=gi (K8.o.trans (Keeps.a1 w3 (.cells #[H J 0,M none 0 0,M none 0 0,H J 0,H J 0,H J 0,H J 0,F false] 26)));have KV:=gi (K8.o.trans (Keeps.a1 w3 (.cells #[H J op9,M sa9 set9.length sc9,M ka9 kids9.length kc9,H J mn9,H J mx9,H J mode9,H J n9,F neg9] 26)));obtain ⟨z0,z1,z2,z3,z4,z5,z6,z7,zf⟩:=zero_cells (heap_alloc_new w3 (.cells #[H J 0,M none 0 0,M none 0 0,H J 0,H J 0,H J 0,H J 0,F false] 26));clear hk3 hqt hqo hqf hq0 her;refine hK.out _ _ (kz.o _ K8.o) fun hHeld=> ?_;clear hK K;try go_frame
     refine tk 11 ?_;refine tk 12 ?_;refine tk 13 ?_;refine j6 14 fun K hK=> ?_;go_simp;refine hK.out _ _ (kz.o _ KA.o) fun hHeld=> ?_;clear hK K;try go_frame
     refine j6 15 fun K hK=> ?_;go_simp;clear z0 z1 z2 z3 z4 z5 z6 z7 zf;refine hK.out _ _ (kz.o _ KV.o) fun hHeld=> ?_;clear hK K;try go_frame
     refine tk 16 ?_;refine wd ?_;go_wp2;go_meet;have hs3:=K8.o.size;exact ⟨w3.heap.size,q0,_,rfl,rfl,by rw [HER.o],QT.o,QO.o.keep (Keeps.a1 w3 _),KV.o,by rw [Q0.o];exact heap_alloc_new w3 _,hs3,fun x hx=> by
      rcases QF.o x hx with h | h
      ·exact .inl (HSRC.o x h)
      ·exact .inr h⟩
    ·go_simp;have KA:=gi (((Keeps.refl [] W).drew).alloc (.cells #[H J 0,M none 0 0,M none 0 0,H J 0,H J 0,H J 0,H J 0,F false] 26));refine hK.out _ _ (kz.o _ KA.o) fun hHeld=> ?_;clear hK K;try go_frame
     refine j6 10 fun K hK=> ?_;go_simp;refine Calls.mono (HCALL.o _ ((HKX.o.trans K3.o.drew).alloc _)) ?_;rintro ee w3 ⟨q,rfl,hqt,hqo,hk3,hqf⟩;have QT:=gi hqt;have QO:=gi hqo;have QF:=gi hqf;obtain ⟨q0,hq0⟩:∃ q0,q0=q:=⟨_,rfl⟩;rw [←hq0] at QT QO QF;have Q0:=gi hq0;obtain ⟨op9,sa9,sc9,set9,ka9,kc9,kids9,mn9,mx9,mode9,n9,neg9⟩:=q;obtain ⟨er,her⟩:∃ er:Int,er=(if T.isSome then 0 else 7):=⟨_,rfl⟩;simp only [MRe.val,←her];have HER:=gi her;have K8:=gi (KA.o.trans hk3);have hz7:=hk3.heap (heap_alloc_new W.drew (.cells #[H J 0,M none 0 0,M none 0 0,H J 0,H J 0,H J 0,H J 0,F false] 26)) (by simp);have hz7:w3.heap[W.heap.size]? =some (.cells #[H J 0,M none 0 0,M none 0 0,H J 0,H J 0,H J 0,H J 0,F false] 26 (0,0)):=hz7;obtain ⟨z0,z1,z2,z3,z4,z5,z6,z7,zf⟩:=zero_cells hz7;have HZ7:=gi hz7;clear hk3 hqt hqo hqf hq0 her hz7;refine hK.out _ _ (kz.o _ K8.o) fun hHeld=> ?_;clear hK K;try go_frame
     refine tk 11 ?_;refine tk 12 ?_;refine tk 13 ?_;refine j6 15 fun K hK=> ?_;go_simp;have k8:=set8_keeps w3 W.heap.size (H J op9) (M sa9 set9.length sc9) (M ka9 kids9.length kc9) (H J mn9) (H J mx9) (H J mode9) (H J n9) (F neg9);have KS:=gi k8;have KV:=gi (K8.o.after k8 (by intro x hx;simp at hx;subst hx;exact .inr (Nat.le_refl _)));clear z0 z1 z2 z3 z4 z5 z6 z7 zf k8;refine hK.out _ _ (kz.o _ KV.o) fun hHeld=> ?_;clear hK K;try go_frame
     refine tk 16 ?_;refine wd ?_;go_wp2;go_meet;have hlt3:=HLT.o;have hws:=HKX.o.size;have hxw:=K3.o.size;refine ⟨W.heap.size,q0,_,rfl,rfl,by rw [HER.o],QT.o,QO.o.keepS KS.o fun x hx=> ?_,KV.o,by rw [Q0.o];exact set8_heap HZ7.o _ _ _ _ _ _ _ _,Nat.le_refl _,fun x hx=> ?_⟩
     ·rcases QF.o x hx with h | h
      ·have:=hlt3 x (HSRC.o x h);simp;omega
      ·have h:W.heap.size + 1≤x:=by simpa using h
       simp;omega
     ·rcases QF.o x hx with h | h
      ·exact .inl (HSRC.o x h)
      ·have h:W.heap.size + 1≤x:=by simpa using h
       exact .inr (by omega)
   case rest=>
    obtain ⟨g8,q,V,rfl,rfl,rfl,hqt,hqo,hkV,hg8,hgW,hqf⟩:=hcut;obtain ⟨q0,hq0⟩:∃ q0,q0=q:=⟨_,rfl⟩;rw [←hq0] at hqt hqo hqf;have QT:=gi hqt;have QO:=gi hqo;have QF:=gi hqf;have Q0:=gi hq0;have KV:=gi hkV;have KXV:=gi (K3.o.trans hkV);have HG8:=gi (show B + 3≤g8 from Nat.le_trans (Nat.le_trans HXS.o K3.o.size) hgW);obtain ⟨op9,sa9,sc9,set9,ka9,kc9,kids9,mn9,mx9,mode9,n9,neg9⟩:=q;obtain ⟨h0,h1,h2,h3,h4,h5,h6,h7⟩:=row_cells (v0:=H J op9) (v1:=M sa9 set9.length sc9) (v2:=M ka9 kids9.length kc9) (v3:=H J mn9) (v4:=H J mx9) (v5:=H J mode9) (v6:=H J n9) (v7:=F neg9) hg8;obtain ⟨er,her⟩:∃ er:Int,er=(if T.isSome then 0 else 7):=⟨_,rfl⟩;rw [←her];have y2:=hkV.c v2;have x0:=hkV.c t0;clear hq0 hqt hqo hqf hkV hg8 hgW v2 t0 g0 g1 g2 g3 g4 g5 g6 g7 e0 e1 e2 e3 e4 e5 e6 e7
    cases T with
    | none=>
     have HR:=gi (show R=none by rw [HR0.o];rfl);obtain rfl:er=7:=her;obtain ⟨z0,z1,z2,z3,z4,z5,z6,z7,zf⟩:=zero_cells (KXV.o.h HZ.o);have HR2:=gi (set8_heap (KXV.o.h HZ.o) (H J 0) (M none 0 0) (M none 0 0) (H J 0) (H J 0) (H J 0) (H J 0) (F false));have HK2:=gi ((HKX.o.trans KXV.o).after (set8_keeps _ (B + 2) (H J 0) (M none 0 0) (M none 0 0) (H J 0) (H J 0) (H J 0) (H J 0) (F false)) (by intro x hx;simp at hx;subst hx;exact .inr (by rw [HBE.o];omega)));go_wp2;refine rt HR2.o ?_;exact AtPost.of_none HR.o rfl HK2.o
    | some t=>
     obtain rfl:er=0:=her;have hKW:=HKX.o.trans KXV.o;have hd:=HK.o.nodes.drop (i + 1) (by omega);have htk:=HK.o.nodes.take i;have hsA:∀ W:World,(Instr.sliceAt 24 (M (some ⟨b,off,none⟩) kids1.length kc1) none (some (H J i)) none).run Tryz.prog W=.ok (M (some ⟨b,off,none⟩) i kc1) W:=by
      intro W;have q2:(i:Int)≤kc1:=by omega
      simp [go_sem,q2]
     have hsB:∀ W:World,(Instr.sliceAt 24 (M (some ⟨b,off,none⟩) kids1.length kc1) (some (H J ((i:Int) + 1))) none none).run Tryz.prog W=.ok (M (if kc1=i + 1 then some ⟨b,off,none⟩ else some ⟨b,off + (i + 1) * 8,none⟩) (kids1.length - (i + 1)) (kc1 - (i + 1))) W:=by
      have hgen:∀ j:Nat,j≤kids1.length→∀ W:World,(Instr.sliceAt 24 (M (some ⟨b,off,none⟩) kids1.length kc1) (some (H J j)) none none).run Tryz.prog W=.ok (M (if kc1=j then some ⟨b,off,none⟩ else some ⟨b,off + j * 8,none⟩) (kids1.length - j) (kc1 - j)) W:=by
       intro j hj W;have q1:(j:Int)≤kids1.length:=by omega
       simp [go_sem,q1]
      intro W;exact hgen (i + 1) (by omega) W
     obtain ⟨ja,hja⟩:∃ ja,ja=(if kc1=i + 1 then some (⟨b,off,none⟩:Addr) else some ⟨b,off + (i + 1) * 8,none⟩):=⟨_,rfl⟩;rw [←hja] at hd hsB;have htl:(kids1.take i).length=i:=by rw [List.length_take];omega
     have hdl:(kids1.drop (i + 1)).length=kids1.length - (i + 1):=List.length_drop;have HS1:=gi (fun (W:World) (h:Keeps [] w W)=> show 0 < i→∃ ad,(some ⟨b,off,none⟩:Option Addr)=some ad∧∀ j u,(flatK (kids1.take i))[j]? =some u→W.cell? (ad.add j)=some u from fun h'=> (htk.keep h).src (by omega));have HS3:=gi (fun (W:World) (h:Keeps [] w W)=> show 0 < kids1.length - (i + 1)→∃ ad,ja=some ad∧∀ j' u,(flatK (kids1.drop (i + 1)))[j']? =some u→W.cell? (ad.add j')=some u from fun h'=> (hd.keep h).src (by omega));have HF1:=gi (show (flatK (kids1.take i)).length=i * 8 by rw [flatK_length,htl]);have HF3:=gi (show (flatK (kids1.drop (i + 1))).length=(kids1.length - (i + 1)) * 8 by rw [flatK_length,hdl]);obtain ⟨ks,hks⟩:∃ ks,ks=kids1.take i ++ ([(.node op9 sa9 sc9 set9 ka9 kc9 kids9 mn9 mx9 mode9 n9 neg9:MRe)] ++ kids1.drop (i + 1)):=⟨_,rfl⟩;have hkt:MRe.trees ks=(MRe.trees kids1).take i ++ (t::(MRe.trees kids1).drop (i + 1)):=by
      have hq:(MRe.tree (.node op9 sa9 sc9 set9 ka9 kc9 kids9 mn9 mx9 mode9 n9 neg9))=t:=by rw [←Q0.o];exact QT.o
      rw [hks];simp [MRe.trees_eq,hq]
     have hkl:ks.length=i + 1 + (kids1.length - (i + 1)):=by rw [hks];simp only [List.length_append,htl,hdl,List.length_cons,List.length_nil];omega
     have HR1:=gi (show R=some (.node op1 set1 (MRe.trees ks) mn1 mx1 mode1 n1 neg1) by rw [HR0.o,hkt];rfl);have hkin:∀ x∈ks,x∈kids1∨x=q0:=fun x hx=> by
      rw [hks] at hx
      rcases List.mem_append.1 hx with hx | hx
      ·exact .inl (List.mem_of_mem_take hx)
      ·rcases List.mem_append.1 hx with hx | hx
       ·simp only [List.mem_cons,List.not_mem_nil,or_false] at hx;exact .inr (by rw [hx,Q0.o])
       ·exact .inl (List.mem_of_mem_drop hx)
     have HKOK:=gi (show ∀ x∈ks,x.OK V from fun x hx=> by
      rcases hkin x hx with h | h
      ·exact (HK.o.all x h).keep hKW
      ·rw [h];exact QO.o)
     have HKB:=gi (show ∀ x∈ks,∀ y∈x.blocks,y∈src∨X.heap.size≤y from fun x hx y hy=> by
      rcases hkin x hx with h | h
      ·exact .inl (HSM.o y (blocks_kid h y hy))
      ·rw [h] at hy
       rcases QF.o y hy with h | h
       ·exact .inl h
       ·exact .inr (Nat.le_trans K3.o.size h))
     have HSB:=gi (show ∀ y∈blockIf set1.length sa1,y∈src from fun y hy=> HSM.o y (by simp only [MRe.blocks,List.mem_append];exact .inl hy));have HKL:=gi hkl;have HKS:=gi hks;have hw1:IntKind.i64.wrap ((i:Int) + 1)=(i:Int) + 1:=IntWalk.i64_in _ (by have:=HBK.o.1;omega);have hbk1:=HBK.o.1;have HKW:=gi hKW;clear hks hkt hkl hkin htl hdl htk hd hja hKW;go_upto_region 9 with fail
     refine rg (S:=fun w'=> w'.cell? ⟨B,2,none⟩=some (M (some ⟨b,off,none⟩) kids1.length kc1)∧w'.cell? ⟨pb,po,none⟩=some (H J i)) (fun _ k=> ⟨k.c y2,k.c x0⟩) fun kz hHeld=> ?_;refine tk 0 ?_;refine tk 1 ?_;refine tk 2 ?_;refine tk 3 ?_;refine tk 4 ?_;refine tk 5 ?_;refine tk 6 ?_;refine j6 7 fun K hK=> ?_;refine oper_append_any (.tmp 47) (.tmp 53) 24 rfl 26 i0 _ 8 96 Tryz.underlying24 Hi.o Hz0.o Hz1.o Hz2.o rfl (by decide) none 0 0 [] rfl (SliceAt.nil _ _ _) (some ⟨b,off,none⟩) i kc1 (flatK (kids1.take i)) rfl HF1.o (HS1.o _ HKW.o.drew) (flatK_one _) (by omega) (by omega) ?_;intro a1 qc1 w1 hsl hk1 ha1;rw [Nat.zero_add,List.nil_append] at hsl;rw [Nat.zero_add];have SL1:=gi hsl;have E1:=gi (show Keeps [] V w1 from ((Keeps.refl [] V).drew).trans hk1);have HA1:=gi (show ∀ g,a1=some g→V.heap.size≤g by
      intro g hg
      rcases ha1 with h | ⟨g',h,h2⟩
      ·rw [hg] at h;cases h
      ·rw [hg] at h;cases h;exact h2)
     clear hsl hk1 ha1;refine hK.out _ _ (kz.o _ E1.o) fun hHeld=> ?_;clear hK K;try go_frame
     refine tk 8 ?_;refine wd ?_;replace y2:=E1.o.c y2;replace x0:=E1.o.c x0;have hc8:=E1.o.c8 h0 h1 h2 h3 h4 h5 h6 h7;clear h0 h1 h2 h3 h4 h5 h6 h7;obtain ⟨h0,h1,h2,h3,h4,h5,h6,h7⟩:=hc8;clear hHeld;simp only [sv]
     go_wp2_with (at_builtin;refine wpList_append_any rfl (.tmp 55) (.tmp 57) 24 rfl 26 i0 _ 8 96 Tryz.underlying24 Hi.o Hz0.o Hz1.o Hz2.o rfl (by decide) a1 i qc1 _ rfl (SL1.o.alloc _) (some ⟨w1.heap.size,0,none⟩) 1 1 (flatK [(.node op9 sa9 sc9 set9 ka9 kc9 kids9 mn9 mx9 mode9 n9 neg9:MRe)]) rfl rfl (fun _=> ⟨_,rfl,news_row w1 [H J op9,M sa9 set9.length sc9,M ka9 kids9.length kc9,H J mn9,H J mx9,H J mode9,H J n9,F neg9] 26⟩) (flatK_one _) (by omega) (by omega) ?hk)
     case hk=>
      intro a2 qc2 w2 hsl hk2 ha2;have SL2:=gi hsl;have hE2:Keeps [] V w2:=(E1.o.trans (Keeps.a1 w1 _)).after hk2 (by intro x hx;simp at hx;exact .inr (HA1.o x hx));have E2:=gi hE2;have HA2:=gi (show ∀ g,a2=some g→V.heap.size≤g by
       intro g hg
       rcases ha2 with h | ⟨g',h,h2⟩
       ·exact HA1.o g (by rw [←h,hg])
       ·rw [hg] at h;cases h;have:=E1.o.size;omega)
      have hVB:∀ y,y < V.heap.size→∀ g,a1=some g→g≠y:=fun y hy g hg h=> by have:=HA1.o g hg;omega
      have y3:=hk2.cell ((Keeps.a1 w1 (.cells #[H J op9,M sa9 set9.length sc9,M ka9 kids9.length kc9,H J mn9,H J mx9,H J mode9,H J n9,F neg9] 26)).c y2) (by simp;intro h;have:=HA1.o _ h;have:=KXV.o.size;have:=HXS.o;omega);have x3:=hk2.cell ((Keeps.a1 w1 (.cells #[H J op9,M sa9 set9.length sc9,M ka9 kids9.length kc9,H J mn9,H J mx9,H J mode9,H J n9,F neg9] 26)).c x0) (by simp;intro h;have:=HA1.o _ h;have:=HKW.o.size;have:=HPB.o;omega);clear hsl hk2 ha2 hE2 hVB y2 x0 SL1 h0 h1 h2 h3 h4 h5 h6 h7 hsA;simp only [sv];go_upto_region 11 with fail
      refine rg (S:=fun w'=> w'.cell? ⟨B,2,none⟩=some (M (some ⟨b,off,none⟩) kids1.length kc1)∧w'.cell? ⟨pb,po,none⟩=some (H J i)) (fun _ k=> ⟨k.c y3,k.c x3⟩) fun kz hHeld=> ?_;refine tk 0 ?_;refine tk 1 ?_;refine tk 2 ?_;refine tk 3 ?_;refine tk 4 ?_;refine tk 5 ?_;refine tk 6 ?_;refine tk 7 ?_;refine j6 8 fun K hK=> ?_;refine oper_append_any (.tmp 59) (.tmp 66) 24 rfl 26 i0 _ 8 96 Tryz.underlying24 Hi.o Hz0.o Hz1.o Hz2.o rfl (by decide) a2 (i + 1) qc2 _ rfl (SL2.o.keep ((Keeps.refl [] w2).drew) (by simp)) ja (kids1.length - (i + 1)) (kc1 - (i + 1)) (flatK (kids1.drop (i + 1))) rfl HF3.o (HS3.o _ (HKW.o.trans E2.o.drew)) (flatK_one _) (by omega) (by omega) ?_;intro a3 qc3 w3 hsl hk3 ha3;rw [List.append_assoc,←flatK_append,←flatK_append,←HKS.o,←HKL.o] at hsl;rw [←HKL.o];have SL3:=gi hsl;have hE3:Keeps [] V w3:=(E2.o.drew).after hk3 (by intro x hx;simp at hx;exact .inr (HA2.o x hx));have E3:=gi hE3;have HA3:=gi (show ∀ g,a3=some g→X.heap.size≤g by
       intro g hg;have h1:=KXV.o.size
       rcases ha3 with h | ⟨g',h,h2⟩
       ·exact Nat.le_trans h1 (HA2.o g (by rw [←h,hg]))
       ·rw [hg] at h;cases h;have:=E2.o.size;have h2:w2.heap.size≤g:=h2;omega)
      have y4:=hk3.cell ((Keeps.refl [] w2).drew.c y3) (by simp;intro h;have:=HA2.o _ h;have:=KXV.o.size;have:=HXS.o;omega);have x4:=hk3.cell ((Keeps.refl [] w2).drew.c x3) (by simp;intro h;have:=HA2.o _ h;have:=HKW.o.size;have:=HPB.o;omega);clear hsl hk3 ha3 hE3 SL2;refine hK.out _ _ (⟨y4,x4⟩) (fun hHeld=> ?_);clear hK K;try go_frame
      refine tk 9 ?_;refine wd ?_;clear y3 x3 y4 x4 hHeld hsB;have HNO:=gi (NodesIn.of_sl SL3.o);have KX3:=gi (KXV.o.trans E3.o);have HBH:=gi (KX3.o.h HB1.o);obtain ⟨c0,c1,c2,c3,c4,c5,c6,c7⟩:=row_cells HBH.o;have hf2:=row_frozen HBH.o;simp only [sv];go_upto_region 13 with fail
      obtain ⟨U,hUe⟩:∃ U,U=w3.setCell ⟨B,2,none⟩ (M (a3.map fun g=> ⟨g,0,none⟩) ks.length qc3):=⟨_,rfl⟩;have hkU:Keeps [B] w3 U:=by rw [hUe];exact (Keeps.refl [B] w3).setCell (p:=⟨B,2,none⟩) (.inl (by simp)) _
      have hUB:U.heap[B]? =some (.cells #[H J op1,M sa1 set1.length sc1,M (a3.map fun g=> ⟨g,0,none⟩) ks.length qc3,H J mn1,H J mx1,H J mode1,H J n1,F neg1] 26 (0,0)):=by rw [hUe];exact heap_setCell_same _ B 2 _ _ _ HBH.o
      rw [←hUe];obtain ⟨a0',a1',a2',a3',a4',a5',a6',a7'⟩:=row_cells hUB;have hBw:w.heap.size≤B:=by rw [HBE.o];exact Nat.le_refl _
      have KWU:=gi (show Keeps [] w U from (HKX.o.trans KX3.o).after hkU (by intro x hx;simp at hx;subst hx;exact .inr hBw));have hzU:U.heap[B + 2]? =some (.cells #[H J 0,M none 0 0,M none 0 0,H J 0,H J 0,H J 0,H J 0,F false] 26 (0,0)):=hkU.heap (KX3.o.h HZ.o) (by simp);obtain ⟨z0,z1,z2,z3,z4,z5,z6,z7,zf⟩:=zero_cells hzU;have hgB:∀ q∈blockIf ks.length (a3.map fun g=> (⟨g,0,none⟩:Addr)),B + 3≤q:=fun q hq=> Nat.le_trans HXS.o ((Fresh.blockIf_map HA3.o) q hq);have hkbB:∀ x∈ks,∀ y∈x.blocks,y≠B:=fun x hx y hy h=> by
       rcases HKB.o x hx y hy with h1 | h1
       ·have:=HLT.o y h1;have:=HBE.o;omega
       ·have:=HXS.o;omega
      have hoU:MRe.OK U (.node op1 sa1 sc1 set1 (a3.map fun g=> ⟨g,0,none⟩) qc3 ks mn1 mx1 mode1 n1 neg1):=by
       refine .of (HSPN.o.keep KWU.o) ⟨HNO.o.keepS hkU (fun q hq=> ?_),fun x hx=> ((HKOK.o x hx).keep E3.o).keepS hkU fun y hy=> ?_⟩
       ·have:=hgB q hq
        simp;omega
       ·have:=hkbB x hx y hy
        simp;exact this
      have hfrU:From (B + 2 + 1) src (MRe.node op1 sa1 sc1 set1 (a3.map fun g=> ⟨g,0,none⟩) qc3 ks mn1 mx1 mode1 n1 neg1).blocks:=fun q hq=> by
       simp only [MRe.blocks,List.mem_append] at hq
       rcases hq with h | h | h
       ·exact .inl (HSB.o q h)
       ·exact .inr (hgB q h)
       ·obtain ⟨y,hy,hqy⟩:=MRe.blocksL_mem h
        rcases HKB.o y hy q hqy with h | h
        ·exact .inl h
        ·exact .inr (Nat.le_trans HXS.o h)
      obtain ⟨hR,hok,hke,hfr2⟩:=rule_storeG (by rw [HBE.o];omega:w.heap.size≤B + 2) KWU.o (Keeps.refl [] U) hzU hoU hfrU HLT.o;have H1:=gi hR;have H2:=gi hok;have H3:=gi hke;have H4:=gi hfr2;clear hR hok hke hfr2 hUe hkU hUB hzU hoU hfrU hgB hf2 c0 c1 c2 c3 c4 c5 c6 c7 hkbB;go_wp2;refine rt H1.o ?_;exact AtPost.of_some (.node op1 sa1 sc1 set1 (a3.map fun g=> ⟨g,0,none⟩) qc3 ks mn1 mx1 mode1 n1 neg1) HR1.o rfl H2.o H3.o H4.o
  ·have HR:=gi (show R=none by rw [hR0,if_neg hx]);have hl0:((r.length:Int) + 1==0)=false:=by simp;omega
   clear hR0 k1 hb
   by_cases hxn:x < 0
   ·have hxb:decide (x < 0)=true:=by simpa using hxn
    clear hx;go_enter Tryz.func42,Tryz.ntmps42
    go_upto_region 1 with fail
    rw [←HXE.o,←HBE.o];go_wp2_with fail
    refine rg (S:=fun w'=> w'.cell? ⟨B,2,none⟩=some (M ka1 kids1.length kc1)∧w'.cell? ⟨pb,po,none⟩=some (H J x)) (fun _ k=> ⟨k.c c2,k.c q0⟩) fun kz hHeld=> ?_;refine tk 0 ?_;refine tk 1 ?_;refine tk 2 ?_;refine tk 3 ?_;refine tk 4 ?_;refine tf 5 ?_;refine tf 6 ?_;refine tf 7 ?_;refine tf 8 ?_;refine tf 9 ?_;refine tf 10 ?_;refine tf 11 ?_;refine tk 12 ?_;refine wd ?_;obtain ⟨W,hWe⟩:∃ W,W=X.drew:=⟨_,rfl⟩;rw [←hWe];have K3:=gi (show Keeps [] X W by rw [hWe];exact (Keeps.refl [] X).drew);clear hHeld hWe c0 c1 c2 c3 c4 c5 c6 c7 q0 d0 d1 d2 d3 d4 d5 d6 d7;obtain ⟨z0,z1,z2,z3,z4,z5,z6,z7,zf⟩:=zero_cells (K3.o.h HZ.o);have HR2:=gi (set8_heap (K3.o.h HZ.o) (H J 0) (M none 0 0) (M none 0 0) (H J 0) (H J 0) (H J 0) (H J 0) (F false));have HK2:=gi ((HKX.o.trans K3.o).after (set8_keeps _ (B + 2) (H J 0) (M none 0 0) (M none 0 0) (H J 0) (H J 0) (H J 0) (H J 0) (F false)) (by intro x hx;simp at hx;subst hx;exact .inr (by rw [HBE.o];omega)));go_wp2;refine rt HR2.o ?_;exact AtPost.of_none HR.o rfl HK2.o
   ·have hxg:(kids1.length:Int)≤x:=by omega
    have hxb:decide (x < 0)=false:=by simpa using hxn
    have hxc:decide ((kids1.length:Int)≤x)=true:=by simpa using hxg
    clear hx;go_enter Tryz.func42,Tryz.ntmps42
    go_upto_region 1 with fail
    rw [←HXE.o,←HBE.o];go_wp2_with fail
    refine rg (S:=fun w'=> w'.cell? ⟨B,2,none⟩=some (M ka1 kids1.length kc1)∧w'.cell? ⟨pb,po,none⟩=some (H J x)) (fun _ k=> ⟨k.c c2,k.c q0⟩) fun kz hHeld=> ?_;refine tk 0 ?_;refine tk 1 ?_;refine tk 2 ?_;refine tk 3 ?_;refine tk 4 ?_;refine tk 5 ?_;refine tk 6 ?_;refine tk 7 ?_;refine tk 8 ?_;refine tk 9 ?_;refine tk 10 ?_;refine tk 11 ?_;refine tk 12 ?_;refine wd ?_;obtain ⟨W,hWe⟩:∃ W,W=X.drew:=⟨_,rfl⟩;rw [←hWe];have K3:=gi (show Keeps [] X W by rw [hWe];exact (Keeps.refl [] X).drew);clear hHeld hWe c0 c1 c2 c3 c4 c5 c6 c7 q0 d0 d1 d2 d3 d4 d5 d6 d7;obtain ⟨z0,z1,z2,z3,z4,z5,z6,z7,zf⟩:=zero_cells (K3.o.h HZ.o);have HR2:=gi (set8_heap (K3.o.h HZ.o) (H J 0) (M none 0 0) (M none 0 0) (H J 0) (H J 0) (H J 0) (H J 0) (F false));have HK2:=gi ((HKX.o.trans K3.o).after (set8_keeps _ (B + 2) (H J 0) (M none 0 0) (M none 0 0) (H J 0) (H J 0) (H J 0) (H J 0) (F false)) (by intro x hx;simp at hx;subst hx;exact .inr (by rw [HBE.o];omega)));go_wp2;refine rt HR2.o ?_;exact AtPost.of_none HR.o rfl HK2.o
end Go.Proofs.YtjnlkjlbejelgaaGreat
