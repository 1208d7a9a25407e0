/- Part 41 of the proof. No condition: every lemma says its own. -/
import Derived.Test.YtjnlkjlbejelgaaGreatLbm
import Derived.Test.YtjnlkjlbejelgaaGreatLbn
namespace Go.Proofs.YtjnlkjlbejelgaaGreat
open Go.RowKit
open Go.Value renaming int→H,slice→M,bool→F
open Go.IntKind renaming i64→J
open Go.Sort
set_option maxRecDepth 100000
set_option maxHeartbeats 16000000
theorem PatOut.some_out {w:World} {cp:Int} {ru:Bool} {v:Value} {t:Tree} {e:Ending} {w':World} (h:PatOut w cp ru v (some t) e w'):∃ m:MRe,e=.returned (.tuple #[patVal m cp ru,v])∧m.tree=t∧m.OK w'∧Keeps [] w w'∧∀ b∈m.blocks,w.heap.size≤b:=by
 obtain ⟨m,cp',ru',he,ht,hc,hr,ho,hk,hf⟩:=h;rw [Option.isSome_some,if_pos rfl] at hc;rw [Option.isSome_some,Bool.true_and] at hr;subst hc;subst hr;exact ⟨m,he,ht,ho,hk,hf⟩
theorem caps_whole {cp top:Int}:∀ t:Tree,wholeT cp top t=true→∀ x∈capsT t,0≤x∧x≤cp:=by
 intro t
 induction t using Tree.induct with
 | h op set kids mn mx mode n neg ih=>
  intro h x hx;rw [wholeT,Bool.and_eq_true,wholeTs_iff,List.all_eq_true] at h;simp only [capsT,List.mem_append] at hx
  rcases hx with hx | hx
  ·split at hx
   ·rename_i h5
    simp at hx;subst hx;subst h5;have h1:=h.1;simp only [nodeB,formedB,Bool.and_eq_true,Bool.not_eq_true',Tree.op,Tree.n] at h1;have h2:=h1.2.2.2.1;simp only [f5B,Int.reduceEq,or_false,if_true,Bool.or_eq_false_iff,decide_eq_false_iff_not] at h2;omega
   ·simp at hx
  ·obtain ⟨k,hk,hx⟩:=capsTs_mem.1 hx;exact ih k hk (h.2 k hk) x hx
theorem caps_valid {t:Tree} {cp:Int} {ru:Bool} (h:validE t cp ru=0):∀ x∈capsT t,0≤x∧x≤9:=by
 unfold validE at h;obtain ⟨top,ht⟩:∃ top:Int,top=(if ru then 1114111 else 255):=⟨_,rfl⟩;rw [←ht] at h
 by_cases h1:256 < sizeT t∨24 < depthT t
 ·rw [if_pos h1] at h;omega
 ·rw [if_neg h1] at h
  by_cases h2:cp < 0∨9 < cp∨wholeT cp top t=false
  ·rw [if_pos h2] at h;omega
  ·intro x hx;have hw:wholeT cp top t=true:=by
    cases hw:wholeT cp top t with
    | true=> rfl
    | false=> exact absurd (.inr (.inr hw)) h2
   have:=caps_whole t hw x hx
   omega
theorem less_walk (la:Option Addr) (lc:Nat) (zs:List Int) (at0 how:Int) (w:World) (hin:IntsIn w la zs) (hl:zs.length≤9223372036854775807) (hb:∀ x∈zs,I64 x) (hat:I64 at0) (hhow:I64 how):
  Calls Tryz.prog 7 #[M la zs.length lc,H J at0,H J how] w fun e w'=> e=.returned (F true)∧Keeps [] w w':=by
 have HD:=gi (doubled_any la lc zs at0 how w hin hl hb hat hhow);clear hin hl hb hat hhow;go_enter Tryz.func7,Tryz.ntmps7
 go_wp2_with fail
 refine Calls.mono HD.o ?_;rintro e w2 ⟨m,cp,rfl,hmo,hmk,hmb,hmv⟩;obtain ⟨m0,hm0⟩:∃ m0,m0=m:=⟨_,rfl⟩;rw [←hm0] at hmo hmb hmv;have HM0:=gi hm0;have HO:=gi hmo;have HMB:=gi hmb;have HMV:=gi hmv;have HK2:=gi hmk;obtain ⟨op1,sa1,sc1,set1,ka1,kc1,kids1,mn1,mx1,mode1,n1,neg1⟩:=m;simp only [patVal,MRe.row,List.cons_append,List.nil_append];clear hmo hmk hmb hm0 hmv;go_upto_region 2 with fail
 obtain ⟨Y,hYe⟩:∃ Y,Y=w2.alloc (.cells #[H J op1,M sa1 set1.length sc1,M ka1 kids1.length kc1,H J mn1,H J mx1,H J mode1,H J n1,F neg1,H J cp,F false] 28):=⟨_,rfl⟩;obtain ⟨G7,hG7⟩:∃ G7,G7=w2.heap.size:=⟨_,rfl⟩;have hkY:Keeps [] w2 Y:=by rw [hYe];exact Keeps.a1 _ _
 have h7:Y.heap[G7]? =some (.cells #[H J op1,M sa1 set1.length sc1,M ka1 kids1.length kc1,H J mn1,H J mx1,H J mode1,H J n1,F neg1,H J cp,F false] 28 (0,0)):=by rw [hYe,hG7];exact heap_alloc_new w2 _
 rw [←hYe,←hG7];have KY:=gi (HK2.o.trans hkY);have HOY:=gi (HO.o.keep hkY);obtain ⟨c0,c1,c2,c3,c4,c5,c6,c7,c8,c9,cf⟩:=row10_cells h7;clear hYe hG7 hkY h7 cf HO;have HPS:=psteps_any m0 cp false Y HOY.o;unfold StepsPost at HPS;rw [HMV.o] at HPS;rw [HM0.o] at HPS;simp only [patVal,MRe.row,List.cons_append,List.nil_append] at HPS;have HPS:=gi HPS;go_wp2_with fail
 refine Calls.mono HPS.o ?_;rintro e w3 ⟨a,c,rows,rfl,hst,hk3,hrn⟩;have HRN:=gi (show rows.map SRow.s=stepsR m0.tree cp false by rw [hrn,HM0.o];simp);have HST:=gi hst;have K3:=gi hk3;have hn:rows.length≤9223372036854775807:=by
  cases a with
  | none=> have:=hst.sl.2.1;omega
  | some g=> obtain ⟨_,cur,_,h1,h2,_⟩:=hst.sl;unfold maxLen at h2;omega
 have hc8:=hk3.c8 c0 c1 c2 c3 c4 c5 c6 c7;clear c0 c1 c2 c3 c4 c5 c6 c7;obtain ⟨c0,c1,c2,c3,c4,c5,c6,c7⟩:=hc8;replace c8:=hk3.c c8;replace c9:=hk3.c c9;simp only [sv];clear hrn hst hk3 HPS;go_wp2
 go_loopw [10,11,12,13,14,15,16,17,18,19] (fun i _ _ _ _ _ _ _ _ _ wr=> ∃ k:Nat,k≤rows.length∧i=H J k∧Keeps [] w3 wr) (fun i _ _ _ _ _ _ _ _ _ _=> rows.length - (intOf i).toNat)
 case atStart=> exact ⟨0,Nat.zero_le _,rfl,Keeps.refl _ _⟩
 case round=>
  obtain ⟨k,hkk,rfl,hkp⟩:=hrel;have KP:=gi hkp;clear hkp
  by_cases hlt:k < rows.length
  ·cases a with
   | none=> exfalso;have h1:=HST.o.sl.2;have h2:rows.length=0:=h1.1;omega
   | some gs=>
   simp only [Option.map_some];have hS:=HST.o.keep0 KP.o;obtain ⟨d1,d2⟩:=hS.cells k hlt;have HIN:=gi (hS.ints rows[k] (List.getElem_mem hlt));have hmem:rows[k].s∈stepsR m0.tree cp false:=by rw [←HRN.o];exact List.mem_map_of_mem (List.getElem_mem hlt)
   obtain ⟨t',hst,hv',hpl⟩:=steps_ok HMV.o hmem
   generalize rows[k]=rw0 at *
   obtain ⟨rl,pa,path,pc⟩:=rw0;simp only [SRow.s] at d1 d2 HIN hst hpl;have hat:=fun (W:World) (h:Keeps [] wr W)=> rulesAt_any m0 cp false rl path pa pc W (HOY.o.keep ((K3.o.trans KP.o).trans h)) (HIN.o.keepS h (fun _ _=> by simp)) hpl;rw [hst] at hat;have HL:=gi (step_les (t:=m0.tree) (cp:=cp) (ru:=false) (r:=rl) (p:=path) (t':=t') (by rw [hst]));have HV':=gi hv';have HAT:=fun (W:World) (h:Keeps [] wr W)=> Calls.mono (hat W h) fun _ _ h=> PatOut.some_out h;rw [HM0.o] at HAT;simp only [patVal,MRe.row,List.cons_append,List.nil_append,stepVal] at HAT;have HAT:=gi HAT;obtain ⟨e0,e1,e2,e3,e4,e5,e6,e7⟩:=KP.o.c8 c0 c1 c2 c3 c4 c5 c6 c7;have e8:=KP.o.c c8;have e9:=KP.o.c c9;have hk0:(0:Int)≤(k:Int):=by omega
   have hk1:(k:Int) < (rows.length:Int):=by omega
   clear hS hmem hst hat hpl hv';go_upto_region 8 with fail
   go_cut [11,12] from 31 to 133 (fun s11 s12 wx=> ∃ (G:Nat) (q:MRe) (V:World),s11=.pointer (some ⟨G,0,none⟩)∧s12=H J 0∧V=wx∧q.tree=t'∧q.OK V∧Keeps [] wr V∧V.heap[G]? =some (.cells (q.row ++ [H J cp,Value.bool false]).toArray 28 (0,0)))
   case first=>
    have K0:=gi ((Keeps.refl [] wr).drew);refine rg (S:=fun w'=> (w'.cell? ⟨G7,0,none⟩=some (H J op1)∧w'.cell? ⟨G7,1,none⟩=some (M sa1 set1.length sc1)∧w'.cell? ⟨G7,2,none⟩=some (M ka1 kids1.length kc1)∧w'.cell? ⟨G7,3,none⟩=some (H J mn1)∧w'.cell? ⟨G7,4,none⟩=some (H J mx1)∧w'.cell? ⟨G7,5,none⟩=some (H J mode1)∧w'.cell? ⟨G7,6,none⟩=some (H J n1)∧w'.cell? ⟨G7,7,none⟩=some (F neg1))∧w'.cell? ⟨G7,8,none⟩=some (H J cp)∧w'.cell? ⟨G7,9,none⟩=some (F false)∧w'.cell? ⟨gs,k * 2,none⟩=some (H J rl)∧w'.cell? ⟨gs,k * 2 + 1,none⟩=some (M pa path.length pc)) (fun _ k=> ⟨⟨k.c e0,k.c e1,k.c e2,k.c e3,k.c e4,k.c e5,k.c e6,k.c e7⟩,k.c e8,k.c e9,k.c d1,k.c d2⟩) fun kz hHeld=> ?_;refine tk 0 ?_;refine tk 1 ?_;refine tk 2 ?_;refine tk 3 ?_;refine tk 4 ?_;refine j7 5 9 (fun K hK=> ?_) fun K hK=> ?_
    ·go_simp;refine Calls.mono (HAT.o _ K0.o) ?_;rintro ee w4 ⟨q,rfl,hqt,hqo,hk4,hqf⟩;obtain ⟨q0,hq0⟩:∃ q0,q0=q:=⟨_,rfl⟩;rw [←hq0] at hqt hqo hqf;have Q0:=gi hq0;obtain ⟨op9,sa9,sc9,set9,ka9,kc9,kids9,mn9,mx9,mode9,n9,neg9⟩:=q;simp only [List.cons_append,List.nil_append];have QT:=gi (show MRe.tree (.node op9 sa9 sc9 set9 ka9 kc9 kids9 mn9 mx9 mode9 n9 neg9)=t' by rw [←Q0.o];exact hqt);have QO:=gi (show MRe.OK w4 (.node op9 sa9 sc9 set9 ka9 kc9 kids9 mn9 mx9 mode9 n9 neg9) by rw [←Q0.o];exact hqo);have QF:=gi (show ∀ b∈MRe.blocks (.node op9 sa9 sc9 set9 ka9 kc9 kids9 mn9 mx9 mode9 n9 neg9),wr.heap.size≤b from fun b hb=> by rw [←Q0.o] at hb;exact hqf b hb);have K4:=gi (K0.o.trans hk4);have KA:=gi (K4.o.trans (Keeps.a1 w4 (.cells #[H J 0,M none 0 0,M none 0 0,H J 0,H J 0,H J 0,H J 0,F false,H J 0,F false] 28)));clear hqt hqo hk4 hqf hq0;refine hK.out _ _ (kz.o _ K4.o) fun hHeld=> ?_;clear hK K;try go_frame
     refine tk 6 ?_;refine tk 7 ?_;refine tk 8 ?_;refine j6 9 fun K hK=> ?_;go_simp;refine hK.out _ _ (kz.o _ KA.o) fun hHeld=> ?_;clear hK K;try go_frame
     refine j6 10 fun K hK=> ?_;refine wp_store_row 28 (.tmp 11) (.tmp 44) rfl w4.heap.size #[H J op9,M sa9 set9.length sc9,M ka9 kids9.length kc9,H J mn9,H J mx9,H J mode9,H J n9,F neg9,H J cp,F false] rfl rfl 28 #[H J 0,M none 0 0,M none 0 0,H J 0,H J 0,H J 0,H J 0,F false,H J 0,F false] (heap_alloc_new w4 _) sizePat rfl (row_all10 _ _ _ _ _ _ _ _ _ _ _ _ _ _) ?_;have hbx:=box_store10 (W0:=wr) (cp:=cp) (ru:=false) (heap_alloc_new w4 _) KA.o K4.o.size (QO.o.keep (Keeps.a1 w4 _)) QT.o QF.o (fun b hb=> by have:=QO.o.block_lt b hb;omega);obtain ⟨qq,VV,hVe,h1,h2,h3,h4,_,_⟩:=hbx;rw [←hVe];have HBX:=gi (And.intro h1 (And.intro h2 (And.intro h3 h4)));refine hK.out _ _ ⟨⟨h3.c e0,h3.c e1,h3.c e2,h3.c e3,h3.c e4,h3.c e5,h3.c e6,h3.c e7⟩,h3.c e8,h3.c e9,h3.c d1,h3.c d2⟩ (fun hHeld=> ?_);clear hK K hVe h1 h2 h3 h4;try go_frame
     refine tk 11 ?_;refine wd ?_;go_wp2;go_meet;exact ⟨w4.heap.size,qq,VV,rfl,rfl,rfl,HBX.o.1,HBX.o.2.1,HBX.o.2.2.1,HBX.o.2.2.2⟩
    ·go_simp;have KA:=gi (K0.o.alloc (.cells #[H J 0,M none 0 0,M none 0 0,H J 0,H J 0,H J 0,H J 0,F false,H J 0,F false] 28));refine hK.out _ _ (kz.o _ KA.o) fun hHeld=> ?_;clear hK K;try go_frame
     refine j6 5 fun K hK=> ?_;go_simp;refine Calls.mono (HAT.o _ KA.o) ?_;rintro ee w4 ⟨q,rfl,hqt,hqo,hk4,hqf⟩;obtain ⟨q0,hq0⟩:∃ q0,q0=q:=⟨_,rfl⟩;rw [←hq0] at hqt hqo hqf;have Q0:=gi hq0;obtain ⟨op9,sa9,sc9,set9,ka9,kc9,kids9,mn9,mx9,mode9,n9,neg9⟩:=q;simp only [List.cons_append,List.nil_append];have QT:=gi (show MRe.tree (.node op9 sa9 sc9 set9 ka9 kc9 kids9 mn9 mx9 mode9 n9 neg9)=t' by rw [←Q0.o];exact hqt);have QO:=gi (show MRe.OK w4 (.node op9 sa9 sc9 set9 ka9 kc9 kids9 mn9 mx9 mode9 n9 neg9) by rw [←Q0.o];exact hqo);have QF:=gi (show ∀ b∈MRe.blocks (.node op9 sa9 sc9 set9 ka9 kc9 kids9 mn9 mx9 mode9 n9 neg9),wr.heap.size + 1≤b from fun b hb=> by rw [←Q0.o] at hb;have h:=hqf b hb;simpa using h);have K4:=gi (KA.o.trans hk4);have hz7:=hk4.heap (heap_alloc_new wr.drew (.cells #[H J 0,M none 0 0,M none 0 0,H J 0,H J 0,H J 0,H J 0,F false,H J 0,F false] 28)) (by simp);have hz7:w4.heap[wr.heap.size]? =some (.cells #[H J 0,M none 0 0,M none 0 0,H J 0,H J 0,H J 0,H J 0,F false,H J 0,F false] 28 (0,0)):=hz7;have HZ7:=gi hz7;clear hqt hqo hk4 hqf hq0 hz7;refine hK.out _ _ (kz.o _ K4.o) fun hHeld=> ?_;clear hK K;try go_frame
     refine tk 6 ?_;refine tk 7 ?_;refine tk 8 ?_;refine j6 10 fun K hK=> ?_;refine wp_store_row 28 (.tmp 11) (.tmp 44) rfl wr.heap.size #[H J op9,M sa9 set9.length sc9,M ka9 kids9.length kc9,H J mn9,H J mx9,H J mode9,H J n9,F neg9,H J cp,F false] rfl rfl 28 #[H J 0,M none 0 0,M none 0 0,H J 0,H J 0,H J 0,H J 0,F false,H J 0,F false] HZ7.o sizePat rfl (row_all10 _ _ _ _ _ _ _ _ _ _ _ _ _ _) ?_;have hbx:=box_store10 (W0:=wr) (cp:=cp) (ru:=false) HZ7.o K4.o (Nat.le_refl _) QO.o QT.o (fun b hb=> by have:=QF.o b hb;omega) (fun b hb=> by have:=QF.o b hb;omega);obtain ⟨qq,VV,hVe,h1,h2,h3,h4,_,_⟩:=hbx;rw [←hVe];have HBX:=gi (And.intro h1 (And.intro h2 (And.intro h3 h4)));refine hK.out _ _ ⟨⟨h3.c e0,h3.c e1,h3.c e2,h3.c e3,h3.c e4,h3.c e5,h3.c e6,h3.c e7⟩,h3.c e8,h3.c e9,h3.c d1,h3.c d2⟩ (fun hHeld=> ?_);clear hK K hVe h1 h2 h3 h4;try go_frame
     refine tk 11 ?_;refine wd ?_;go_wp2;go_meet;exact ⟨wr.heap.size,qq,VV,rfl,rfl,rfl,HBX.o.1,HBX.o.2.1,HBX.o.2.2.1,HBX.o.2.2.2⟩
   case rest=>
    obtain ⟨G,q,V,rfl,rfl,rfl,hqt,hqo,hkV,hgq⟩:=hcut;have KV:=gi ((K3.o.trans KP.o).trans hkV);have KWV:=gi hkV;obtain ⟨q0,hq0⟩:∃ q0,q0=q:=⟨_,rfl⟩;rw [←hq0] at hqt hqo;have Q0:=gi hq0;have HQO:=gi hqo;have hqb:q0.tree.bulk≤1000000:=by rw [hqt];have:=(valid_ok HV'.o).2.1;omega
    have hpb:m0.tree.bulk≤1000000:=by have:=HMB.o;omega
    have hLes:=HL.o;rw [←hqt] at hLes;have HLes:=gi hLes;have HOV:=gi (HOY.o.keep KV.o);have HLP:=fun (W:World) (h:Keeps [] V W)=> leaves_any m0 W (HOV.o.keep h) hpb;have HLQ:=fun (W:World) (h:Keeps [] V W)=> leaves_any q0 W (HQO.o.keep h) hqb;have HSP:=fun (W:World) (h:Keeps [] V W)=> asize_any m0 W (HOV.o.keep h) hpb;have HSQ:=fun (W:World) (h:Keeps [] V W)=> asize_any q0 W (HQO.o.keep h) hqb;have HUP:=fun (W:World) (h:Keeps [] V W)=> uses_any m0 W (HOV.o.keep h);have HUQ:=fun (W:World) (h:Keeps [] V W)=> uses_any q0 W (HQO.o.keep h);have HEP:=fun (W:World) (h:Keeps [] V W)=> null_any m0 W (HOV.o.keep h);have HEQ:=fun (W:World) (h:Keeps [] V W)=> null_any q0 W (HQO.o.keep h);have HNP:=fun (W:World) (h:Keeps [] V W)=> anums_any m0 W (HOV.o.keep h) hpb (caps_valid HMV.o);have HNQ:=fun (W:World) (h:Keeps [] V W)=> anums_any q0 W (HQO.o.keep h) hqb (by rw [hqt];exact caps_valid HV'.o);have hme:=hLes.me;have hsub:=sub8_eq hLes.us;rw [hLes.nu] at HEQ;have hul:=usesT_lt m0.tree;have hvl:=usesT_lt q0.tree;obtain ⟨LA,hLA⟩:∃ x,x=leafT m0.tree:=⟨_,rfl⟩;obtain ⟨LB,hLB⟩:∃ x,x=leafT q0.tree:=⟨_,rfl⟩;obtain ⟨SM,hSM⟩:∃ x,x=sizeT m0.tree:=⟨_,rfl⟩;obtain ⟨SN,hSN⟩:∃ x,x=sizeT q0.tree:=⟨_,rfl⟩;obtain ⟨UP,hUP⟩:∃ x,x=usesT m0.tree:=⟨_,rfl⟩;obtain ⟨UQ,hUQ⟩:∃ x,x=usesT q0.tree:=⟨_,rfl⟩;obtain ⟨EP,hEP⟩:∃ x,x=nullP m0.tree:=⟨_,rfl⟩;rw [←hLA] at HLP hme;rw [←hLB] at HLQ hme;rw [←hSM] at HSP hme;rw [←hSN] at HSQ hme;rw [←hUP] at HUP hsub hul;rw [←hUQ] at HUQ hsub hvl;rw [←hEP] at HEP HEQ;simp only [decide_eq_true_eq] at hme;obtain ⟨op9,sa9,sc9,set9,ka9,kc9,kids9,mn9,mx9,mode9,n9,neg9⟩:=q;rw [HM0.o] at HLP HSP HUP HEP HNP;rw [Q0.o] at HLQ HSQ HUQ HEQ HNQ;simp only [MRe.val] at HLP HSP HUP HEP HNP HLQ HSQ HUQ HEQ HNQ;have HLP:=gi HLP;have HLQ:=gi HLQ;have HSP:=gi HSP;have HSQ:=gi HSQ;have HUP:=gi HUP;have HUQ:=gi HUQ;have HEP:=gi HEP;have HEQ:=gi HEQ;have HNP:=gi HNP;have HNQ:=gi HNQ;have HME:=gi hme;have HSUB:=gi hsub;have HUL:=gi hul;have HVL:=gi hvl;have hc8:=hkV.c8 e0 e1 e2 e3 e4 e5 e6 e7;clear e0 e1 e2 e3 e4 e5 e6 e7;obtain ⟨e0,e1,e2,e3,e4,e5,e6,e7⟩:=hc8;replace d1:=hkV.c d1;obtain ⟨g0,g1,g2,g3,g4,g5,g6,g7,_,_,_⟩:=row10_cells (show V.heap[G]? =some (.cells #[H J op9,M sa9 set9.length sc9,M ka9 kids9.length kc9,H J mn9,H J mx9,H J mode9,H J n9,F neg9,H J cp,F false] 28 (0,0)) from hgq);clear hqt hqo hkV hgq hq0 hqb hpb hLes hme hsub hul hvl hLA hLB hSM hSN hUP hUQ hEP d2 e8 e9;go_wp2_with fail
    refine Calls.mono (HLP.o _ (Keeps.refl [] V)) ?_;rintro ee w5 ⟨rfl,hk⟩;have K5:=gi hk;have hc8:=hk.c8 e0 e1 e2 e3 e4 e5 e6 e7;clear e0 e1 e2 e3 e4 e5 e6 e7;obtain ⟨e0,e1,e2,e3,e4,e5,e6,e7⟩:=hc8;have hc8:=hk.c8 g0 g1 g2 g3 g4 g5 g6 g7;clear g0 g1 g2 g3 g4 g5 g6 g7;obtain ⟨g0,g1,g2,g3,g4,g5,g6,g7⟩:=hc8;replace d1:=hk.c d1;clear hk;go_wp2_with fail
    refine Calls.mono (HLQ.o _ K5.o) ?_;rintro ee w6 ⟨rfl,hk⟩;have K6:=gi (K5.o.trans hk);have hc8:=hk.c8 e0 e1 e2 e3 e4 e5 e6 e7;clear e0 e1 e2 e3 e4 e5 e6 e7;obtain ⟨e0,e1,e2,e3,e4,e5,e6,e7⟩:=hc8;have hc8:=hk.c8 g0 g1 g2 g3 g4 g5 g6 g7;clear g0 g1 g2 g3 g4 g5 g6 g7;obtain ⟨g0,g1,g2,g3,g4,g5,g6,g7⟩:=hc8;replace d1:=hk.c d1;clear hk;go_wp2_with fail
    refine Calls.mono (HSP.o _ K6.o) ?_;rintro ee w7 ⟨rfl,hk⟩;have K7:=gi (K6.o.trans hk);have hc8:=hk.c8 e0 e1 e2 e3 e4 e5 e6 e7;clear e0 e1 e2 e3 e4 e5 e6 e7;obtain ⟨e0,e1,e2,e3,e4,e5,e6,e7⟩:=hc8;have hc8:=hk.c8 g0 g1 g2 g3 g4 g5 g6 g7;clear g0 g1 g2 g3 g4 g5 g6 g7;obtain ⟨g0,g1,g2,g3,g4,g5,g6,g7⟩:=hc8;replace d1:=hk.c d1;clear hk;go_wp2_with fail
    refine Calls.mono (HSQ.o _ K7.o) ?_;rintro ee w8 ⟨rfl,hk⟩;have K8:=gi (K7.o.trans hk);have hc8:=hk.c8 e0 e1 e2 e3 e4 e5 e6 e7;clear e0 e1 e2 e3 e4 e5 e6 e7;obtain ⟨e0,e1,e2,e3,e4,e5,e6,e7⟩:=hc8;have hc8:=hk.c8 g0 g1 g2 g3 g4 g5 g6 g7;clear g0 g1 g2 g3 g4 g5 g6 g7;obtain ⟨g0,g1,g2,g3,g4,g5,g6,g7⟩:=hc8;replace d1:=hk.c d1;clear hk;go_upto_region 13 with fail
    go_cut [92] (fun s92 wx=> s92=F false∧w8=wx)
    case first=>
     rcases HME.o with h | ⟨rfl,h | ⟨rfl,rfl⟩⟩
     ·have h1:¬ ((LB:Int) > (LA:Int)):=by omega
      have h2:((LB:Int)==(LA:Int))=false:=by simp;omega
      go_wp2;go_meet;exact ⟨rfl,rfl⟩
     ·have h1:¬ ((SN:Int) > (SM:Int)):=by omega
      have h2:((SN:Int)==(SM:Int))=false:=by simp;omega
      go_wp2;go_meet;exact ⟨rfl,rfl⟩
     ·go_wp2;go_meet;exact ⟨rfl,rfl⟩
    case rest=>
     obtain ⟨rfl,rfl⟩:=hcut;have hul:=HUL.o;have hvl:=HVL.o;have hor1:bits .or .i64 (UQ:Int) (UP:Int)=((UQ ||| UP:Nat):Int):=bits_or hvl hul;have hor2:bits .or .i64 ((UQ ||| UP:Nat):Int) 8=((UP ||| 8:Nat):Int):=by rw [←HSUB.o];exact bits_or (b:=8) (or_lt hvl hul) (by decide)
     have hor3:bits .or .i64 (UP:Int) 8=((UP ||| 8:Nat):Int):=bits_or (b:=8) hul (by decide);have CUQ:=gi (fun d os=> Calls.regrown_of ((HUQ.o _ (K8.o.trans (Keeps.of_below (below_regrown w8 d os)))).mono fun e w' ⟨he,hk⟩=> ⟨he,hk.below (Nat.le_refl _)⟩));have CUP:=gi (fun d os=> Calls.regrown_of ((HUP.o _ (K8.o.trans (Keeps.of_below (below_regrown w8 d os)))).mono fun e w' ⟨he,hk⟩=> ⟨he,hk.below (Nat.le_refl _)⟩));have CEQ:=gi (fun d os=> Calls.regrown_of ((HEQ.o _ (K8.o.trans (Keeps.of_below (below_regrown w8 d os)))).mono fun e w' ⟨he,hk⟩=> ⟨he,hk.below (Nat.le_refl _)⟩));have CEP:=gi (fun d os=> Calls.regrown_of ((HEP.o _ (K8.o.trans (Keeps.of_below (below_regrown w8 d os)))).mono fun e w' ⟨he,hk⟩=> ⟨he,hk.below (Nat.le_refl _)⟩));have HE:=gi (And.intro e0 (And.intro e1 (And.intro e2 (And.intro e3 (And.intro e4 (And.intro e5 (And.intro e6 e7)))))));have HG:=gi (And.intro g0 (And.intro g1 (And.intro g2 (And.intro g3 (And.intro g4 (And.intro g5 (And.intro g6 g7)))))));have s0:=cell_regrown e0;have s1:=cell_regrown e1;have s2:=cell_regrown e2;have s3:=cell_regrown e3;have s4:=cell_regrown e4;have s5:=cell_regrown e5;have s6:=cell_regrown e6;have s7:=cell_regrown e7;have t0:=cell_regrown g0;have t1:=cell_regrown g1;have t2:=cell_regrown g2;have t3:=cell_regrown g3;have t4:=cell_regrown g4;have t5:=cell_regrown g5;have t6:=cell_regrown g6;have t7:=cell_regrown g7;clear hul hvl e0 e1 e2 e3 e4 e5 e6 e7 g0 g1 g2 g3 g4 g5 g6 g7 d1;go_wp2;refine wp_region_quiet_below (by kernel_rfl) (by kernel_rfl) ?_
     repeat (go_big_quiet_step (first | exact CUQ.o _ _ | exact CUP.o _ _ | exact CEP.o _ _ | exact CEQ.o _ _))
     refine wpQuiet_nil ?_;intro _ hw';obtain ⟨pq,hw''⟩:=hw';subst hw'';have hk:=Keeps.of_below (below_regrown w8 pq.d pq.os);have K9:=gi (K8.o.trans hk);obtain ⟨e0,e1,e2,e3,e4,e5,e6,e7⟩:=HE.o;obtain ⟨g0,g1,g2,g3,g4,g5,g6,g7⟩:=HG.o;have hc8:=hk.c8 e0 e1 e2 e3 e4 e5 e6 e7;clear e0 e1 e2 e3 e4 e5 e6 e7;obtain ⟨e0,e1,e2,e3,e4,e5,e6,e7⟩:=hc8;have hc8:=hk.c8 g0 g1 g2 g3 g4 g5 g6 g7;clear g0 g1 g2 g3 g4 g5 g6 g7;obtain ⟨g0,g1,g2,g3,g4,g5,g6,g7⟩:=hc8;clear hk s0 s1 s2 s3 s4 s5 s6 s7 t0 t1 t2 t3 t4 t5 t6 t7 hor1 hor2 hor3 CUQ CUP CEQ CEP HE HG
     generalize grow (redrawn w8 pq.d) pq.os=Z9 at *
     go_wp2_with fail
     refine Calls.mono (HNP.o _ K9.o) ?_;rintro ee w10 ⟨na,nc,nl,rfl,hni,hk,hnx,hnl⟩;have K10:=gi (K9.o.trans hk);have HNI:=gi hni;have HNX:=gi hnx;have HNL:=gi hnl;have hc8:=hk.c8 g0 g1 g2 g3 g4 g5 g6 g7;clear g0 g1 g2 g3 g4 g5 g6 g7;obtain ⟨g0,g1,g2,g3,g4,g5,g6,g7⟩:=hc8;simp only [sv];clear hni hk hnx hnl e0 e1 e2 e3 e4 e5 e6 e7;go_wp2_with fail
     refine Calls.mono (HNQ.o _ K10.o) ?_;rintro ee w11 ⟨qa,qc,ql,rfl,hqi,hk,hqx,hql⟩;have K11:=gi (KV.o.trans (K10.o.trans hk));have KW11:=gi (KP.o.trans (KWV.o.trans (K10.o.trans hk)));have HNI2:=gi (HNI.o.keepS hk (fun _ _=> by simp));have HQI:=gi hqi;have HHAS:=gi (show ∀ x∈ql,decide (x∈nl)=true from fun x hx=> by
      rw [decide_eq_true_eq,HNX.o];have h:=HLes.o.ca x (by rw [Q0.o];exact (hqx x).1 hx);rw [HM0.o] at h;exact h)
     simp only [sv];clear hqi hk hqx g0 g1 g2 g3 g4 g5 g6 g7;go_wp2
     go_loopw [19] (fun j wl=> ∃ t:Nat,t≤ql.length∧j=H J t∧Keeps [] w11 wl) (fun j _=> ql.length - (intOf j).toNat)
     case atStart=> exact ⟨0,Nat.zero_le _,rfl,Keeps.refl _ _⟩
     case round=>
      obtain ⟨t,htt,rfl,hkl⟩:=hrel;have KL:=gi hkl;clear hkl
      by_cases htl:t < ql.length
      ·obtain ⟨b,off,hb,hcx⟩:=(HQI.o.keepS KL.o (fun _ _=> by simp)) (by omega);have dx:=hcx t htl;have hxm:ql.getD t 0∈ql:=by rw [List.getD_eq_getElem?_getD,List.getElem?_eq_getElem htl,Option.getD_some];exact List.getElem_mem htl
       obtain ⟨x,hx⟩:∃ x,x=ql.getD t 0:=⟨_,rfl⟩;rw [←hx] at dx hxm;have hc:=has_any (na.map fun g=> ⟨g,0,none⟩) nc nl x wr (HNI2.o.keepS KL.o (fun _ _=> by simp)) HNL.o;rw [HHAS.o x hxm] at hc;have HC:=gi hc;rw [hb];have ht0:(0:Int)≤(t:Int):=by omega
       have ht1:(t:Int) < (ql.length:Int):=by omega
       clear hb hcx hx hxm hc;go_wp2_with fail
       refine Calls.mono HC.o ?_;rintro ee w12 ⟨rfl,hk⟩;have K12:=gi (KL.o.trans hk);clear hk dx;go_wp2;go_roundw
       case rel=> exact ⟨t + 1,by omega,by go_num,K12.o⟩
       case measure=> simp [intOf];omega
      ·obtain rfl:t=ql.length:=by omega
       have KZ:=gi (KW11.o.trans KL.o);go_wp2;go_roundw
       case rel=> exact ⟨k + 1,by omega,by go_num,KZ.o⟩
       case measure=> simp [intOf];omega
  ·obtain rfl:k=rows.length:=by omega
   go_wp2_with fail
   refine Calls.mono (lives_any _) ?_;rintro ee w6 ⟨rfl,hk6⟩;have K7:=gi (((KY.o.trans K3.o).trans KP.o).trans hk6);clear hk6;go_wp2;go_ret;exact ⟨rfl,K7.o⟩
end Go.Proofs.YtjnlkjlbejelgaaGreat
