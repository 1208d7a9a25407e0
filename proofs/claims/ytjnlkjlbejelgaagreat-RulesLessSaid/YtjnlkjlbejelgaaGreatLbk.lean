/- Part 37 of the proof. No condition: every lemma says its own. -/
import Derived.Test.YtjnlkjlbejelgaaGreatLbc
import Derived.Test.YtjnlkjlbejelgaaGreatLbg
import Derived.Test.YtjnlkjlbejelgaaGreatLbj
namespace Go.Proofs.YtjnlkjlbejelgaaGreat
open Go.RowKit
open Go.Value renaming int→H,slice→M,bool→F
open Go.IntKind renaming i64→J
set_option maxRecDepth 100000
set_option maxHeartbeats 16000000
def stepB (t:Tree) (cp:Int) (ru:Bool) (path:List Int):Option Tree→Int × Option Tree
 | none=> (10,none)
 | some y=> if (putV t cp ru path y).isSome then (0,putV t cp ru path y) else (4,none)
def stepA (t:Tree) (cp:Int) (ru:Bool) (r:Nat) (path:List Int):Option Tree→Int × Option Tree
 | none=> (7,none)
 | some x=> stepB t cp ru path (ruleR r x)
def stepR (t:Tree) (cp:Int) (ru:Bool) (r:Int) (path:List Int):Int × Option Tree:=
 if validE t cp ru=0 then if 0≤r∧r < 17 then stepA t cp ru r.toNat path (atT t path) else (5,none) else (validE t cp ru,none)
def stepVal (r:Int) (pa:Option Addr) (len pc:Nat):Value:=.agg #[H J r,M pa len pc]
theorem box_storeB {W0 w3:World} {g:Nat} {T:Tree} {op sa sc set ka kc kids mn mx mode n neg} (hz:w3.heap[g]? =some (.cells #[H J 0,M none 0 0,M none 0 0,H J 0,H J 0,H J 0,H J 0,F false] 26 (0,0))) (hk:Keeps [] W0 w3) (hg:W0.heap.size≤g) (qo:MRe.OK w3 (.node op sa sc set ka kc kids mn mx mode n neg)) (ht:MRe.tree (.node op sa sc set ka kc kids mn mx mode n neg)=T) (hne:∀ b∈(MRe.blocks (.node op sa sc set ka kc kids mn mx mode n neg)),b≠g):
  ∃ (q:MRe) (V:World),V=w3.setRow g #[H J op,M sa set.length sc,M ka kids.length kc,H J mn,H J mx,H J mode,H J n,F neg]∧q.tree=T∧q.OK V∧Keeps [] W0 V∧V.heap[g]? =some (.cells q.row.toArray 26 (0,0)):=by
 have hk8:Keeps [g] w3 (w3.setRow g #[H J op,M sa set.length sc,M ka kids.length kc,H J mn,H J mx,H J mode,H J n,F neg]):=(Keeps.refl [g] w3).setRow (.inl (by simp)) _;exact ⟨.node op sa sc set ka kc kids mn mx mode n neg,_,rfl,ht,qo.keepS hk8 fun b hb=> by have:=hne b hb;simp;exact this,hk.after hk8 (by intro x hx;simp at hx;subst hx;exact .inr hg),setRow_heap w3 g _ _ _ _ hz⟩
theorem rulesAt_any (m:MRe) (cp:Int) (ru:Bool) (r:Int) (path:List Int) (pa:Option Addr) (pc:Nat) (w:World) (k1:m.OK w) (hin:IntsIn w pa path) (hl:path.length≤1000000):
  Calls Tryz.prog 27 #[patVal m cp ru,stepVal r pa path.length pc] w (PatOut w cp ru (H J (stepR m.tree cp ru r path).1) (stepR m.tree cp ru r path).2):=by
 obtain ⟨B,hBe⟩:∃ B,B=w.heap.size:=⟨_,rfl⟩;obtain ⟨X,hXe⟩:∃ X,X=((w.alloc (.cells (m.row ++ [H J cp,Value.bool ru]).toArray 28)).alloc (.cells #[H J r,M pa path.length pc] 61)).alloc (.cells #[H J 0,M none 0 0,M none 0 0,H J 0,H J 0,H J 0,H J 0,F false,H J 0,F false] 28):=⟨_,rfl⟩;have hkX:Keeps [] w X:=by rw [hXe];exact Keeps.a3 _ _ _ _
 have hb1:X.heap[B]? =some (.cells (m.row ++ [H J cp,Value.bool ru]).toArray 28 (0,0)):=by rw [hXe,hBe];exact (Keeps.a2 _ _ _).heap (heap_alloc_new w _) (by simp)
 have hb2:X.heap[B + 1]? =some (.cells #[H J r,M pa path.length pc] 61 (0,0)):=by rw [hXe,hBe];exact (Keeps.a1 _ _).heap (heap_alloc2_new w _ _) (by simp)
 have hz:X.heap[B + 1 + 1]? =some (.cells #[H J 0,M none 0 0,M none 0 0,H J 0,H J 0,H J 0,H J 0,F false,H J 0,F false] 28 (0,0)):=by
  rw [hXe,show B + 1 + 1=((w.alloc (.cells (m.row ++ [H J cp,Value.bool ru]).toArray 28)).alloc (.cells #[H J r,M pa path.length pc] 61)).heap.size by rw [hBe];simp];exact heap_alloc_new _ _
 have HV:=gi (avalid_any m cp ru X (k1.keep hkX));have HPUT:=gi (fun (W:World) (h:Keeps [] X W) (p:MRe) (h1:p.OK W) (h2:m.tree.bulk≤1000000) (h3:p.tree.bulk≤1000000)=> rput2_any m p cp ru path pa pc W ((k1.keep hkX).keep h) h1 ((hin.keepS hkX (fun _ _=> by simp)).keepS h (fun _ _=> by simp)) hl h2 h3);have HAT:=gi (fun (W:World) (h:Keeps [] X W) (h2:m.tree.bulk≤1000000)=> aat_any m path pa pc W ((k1.keep hkX).keep h) ((hin.keepS hkX (fun _ _=> by simp)).keepS h (fun _ _=> by simp)) hl h2);obtain ⟨T,hT⟩:∃ T,T=m.tree:=⟨_,rfl⟩;obtain ⟨R,hR⟩:∃ R,R=stepR m.tree cp ru r path:=⟨_,rfl⟩;rw [←hR];rw [←hT] at hR HPUT HAT HV;unfold stepR at hR;obtain ⟨ve,hve⟩:∃ v,v=validE T cp ru:=⟨_,rfl⟩;have HVO:=gi (show ve=0→T.WF∧T.bulk≤16640 from fun h=> by have:=valid_ok (hve ▸ h);exact ⟨this.1,this.2.1⟩);rw [←hve] at hR HV;have HR:=gi hR;have HBE:=gi hBe;have HKX:=gi hkX;have HZ:=gi hz;obtain ⟨op1,sa1,sc1,set1,ka1,kc1,kids1,mn1,mx1,mode1,n1,neg1⟩:=m;have HXE:=gi (show X=((w.alloc (.cells #[H J op1,M sa1 set1.length sc1,M ka1 kids1.length kc1,H J mn1,H J mx1,H J mode1,H J n1,F neg1,H J cp,F ru] 28)).alloc (.cells #[H J r,M pa path.length pc] 61)).alloc (.cells #[H J 0,M none 0 0,M none 0 0,H J 0,H J 0,H J 0,H J 0,F false,H J 0,F false] 28) from hXe);simp only [MRe.val,patVal,MRe.row,List.cons_append,List.nil_append] at HV HPUT HAT;obtain ⟨c0,c1,c2,c3,c4,c5,c6,c7,c8,c9,cf⟩:=row10_cells (show X.heap[B]? =some (.cells #[H J op1,M sa1 set1.length sc1,M ka1 kids1.length kc1,H J mn1,H J mx1,H J mode1,H J n1,F neg1,H J cp,F ru] 28 (0,0)) from hb1);have s0:X.cell? ⟨B + 1,0,none⟩=some (H J r):=by simp [World.cell?,hb2]
 have s1:X.cell? ⟨B + 1,1,none⟩=some (M pa path.length pc):=by simp [World.cell?,hb2]
 show Calls Tryz.prog 27 #[.agg #[H J op1,M sa1 set1.length sc1,M ka1 kids1.length kc1,H J mn1,H J mx1,H J mode1,H J n1,F neg1,H J cp,F ru],.agg #[H J r,M pa path.length pc]] w _
 clear hBe hXe hkX hb1 hb2 hz hR k1 hin cf hT hve;go_enter Tryz.func27,Tryz.ntmps27
 go_upto_region 1 with fail
 rw [←HXE.o,←HBE.o];go_wp2_with fail
 refine Calls.mono HV.o ?_;rintro e w2 ⟨rfl,hk2⟩;have K2:=gi hk2;have hc8:=hk2.c8 c0 c1 c2 c3 c4 c5 c6 c7;clear c0 c1 c2 c3 c4 c5 c6 c7;obtain ⟨c0,c1,c2,c3,c4,c5,c6,c7⟩:=hc8;replace c8:=hk2.c c8;replace c9:=hk2.c c9;replace s0:=hk2.c s0;replace s1:=hk2.c s1;clear hk2 HV
 by_cases hv:ve=0
 rotate_left
 ·have hvb:(ve !=0)=true:=by simpa using hv
  have HRN:=gi (show R=(ve,none) by rw [HR.o,if_neg hv]);have HSV:=gi (set10_heap (K2.o.h HZ.o) (H J 0) (M none 0 0) (M none 0 0) (H J 0) (H J 0) (H J 0) (H J 0) (F false) (H J 0) (F false));have HKS:=gi ((HKX.o.trans K2.o).after (set10_keeps w2 (B + 1 + 1) (H J 0) (M none 0 0) (M none 0 0) (H J 0) (H J 0) (H J 0) (H J 0) (F false) (H J 0) (F false)) (by intro x hx;simp at hx;subst hx;exact .inr (by have:=HBE.o;omega)));obtain ⟨z0,z1,z2,z3,z4,z5,z6,z7,z8,z9,zf⟩:=row10_cells (K2.o.h HZ.o);go_wp2;refine bodyPost_ret (results_row_tmp rfl _ _ (B + 1 + 1) 28 #[H J 0,M none 0 0,M none 0 0,H J 0,H J 0,H J 0,H J 0,F false,H J 0,F false] (0,0) _ rfl HSV.o Tryz.underlying28 rfl sizePat) rfl ?_;exact PatOut.of_none (by rw [HRN.o]) (by rw [HRN.o];rfl) HKS.o
 obtain ⟨hwf,hbk⟩:=HVO.o hv;subst hv;have HWF:=gi hwf;have HBK:=gi hbk;have HR2:=gi (HR.o.trans (if_pos rfl));clear hwf hbk HVO HR;go_wp2_with fail
 refine Calls.mono (table_any _) ?_;rintro e w3 ⟨g,rfl,htab,hk3,hg⟩;have K3:=gi (K2.o.trans hk3);have hc8:=hk3.c8 c0 c1 c2 c3 c4 c5 c6 c7;clear c0 c1 c2 c3 c4 c5 c6 c7;obtain ⟨c0,c1,c2,c3,c4,c5,c6,c7⟩:=hc8;replace c8:=hk3.c c8;replace c9:=hk3.c c9;replace s0:=hk3.c s0;replace s1:=hk3.c s1;have HTAB:=gi htab;clear hk3 htab hg
 by_cases hr0:r < 0
 ·skip
  have HRN:=gi (show R=(5,none) by rw [HR2.o,if_neg (by omega)]);have HSV:=gi (set10_heap (K3.o.h HZ.o) (H J 0) (M none 0 0) (M none 0 0) (H J 0) (H J 0) (H J 0) (H J 0) (F false) (H J 0) (F false));have HKS:=gi ((HKX.o.trans K3.o).after (set10_keeps w3 (B + 1 + 1) (H J 0) (M none 0 0) (M none 0 0) (H J 0) (H J 0) (H J 0) (H J 0) (F false) (H J 0) (F false)) (by intro x hx;simp at hx;subst hx;exact .inr (by have:=HBE.o;omega)));obtain ⟨z0,z1,z2,z3,z4,z5,z6,z7,z8,z9,zf⟩:=row10_cells (K3.o.h HZ.o);go_wp2;refine bodyPost_ret (results_row_tmp rfl _ _ (B + 1 + 1) 28 #[H J 0,M none 0 0,M none 0 0,H J 0,H J 0,H J 0,H J 0,F false,H J 0,F false] (0,0) _ rfl HSV.o Tryz.underlying28 rfl sizePat) rfl ?_;exact PatOut.of_none (by rw [HRN.o]) (by rw [HRN.o];rfl) HKS.o
 by_cases hr1:17≤r
 ·skip
  have HRN:=gi (show R=(5,none) by rw [HR2.o,if_neg (by omega)]);have HSV:=gi (set10_heap (K3.o.h HZ.o) (H J 0) (M none 0 0) (M none 0 0) (H J 0) (H J 0) (H J 0) (H J 0) (F false) (H J 0) (F false));have HKS:=gi ((HKX.o.trans K3.o).after (set10_keeps w3 (B + 1 + 1) (H J 0) (M none 0 0) (M none 0 0) (H J 0) (H J 0) (H J 0) (H J 0) (F false) (H J 0) (F false)) (by intro x hx;simp at hx;subst hx;exact .inr (by have:=HBE.o;omega)));obtain ⟨z0,z1,z2,z3,z4,z5,z6,z7,z8,z9,zf⟩:=row10_cells (K3.o.h HZ.o);go_wp2;refine bodyPost_ret (results_row_tmp rfl _ _ (B + 1 + 1) 28 #[H J 0,M none 0 0,M none 0 0,H J 0,H J 0,H J 0,H J 0,F false,H J 0,F false] (0,0) _ rfl HSV.o Tryz.underlying28 rfl sizePat) rfl ?_;exact PatOut.of_none (by rw [HRN.o]) (by rw [HRN.o];rfl) HKS.o
 have HR3:=gi (HR2.o.trans (if_pos (by omega)));obtain ⟨rn,rfl⟩:∃ n:Nat,r=(n:Int):=⟨r.toNat,by omega⟩;have hrn:rn < 17:=by omega
 have HRN0:=gi hrn;clear HR2;go_wp2_with fail
 refine Calls.mono (HAT.o _ K3.o (by have:=HBK.o;omega)) ?_;rintro e w4 ⟨q,rfl,hqt,hqo,hk4,hqf⟩;obtain ⟨q0,hq0⟩:∃ q0,q0=q:=⟨_,rfl⟩;rw [←hq0] at hqt hqo hqf;have Q0:=gi hq0;have QT:=gi hqt;have QO:=gi hqo;obtain ⟨op9,sa9,sc9,set9,ka9,kc9,kids9,mn9,mx9,mode9,n9,neg9⟩:=q;simp only [MRe.val];have K4:=gi (K3.o.trans hk4);have K34:=gi hk4;have hc8:=hk4.c8 c0 c1 c2 c3 c4 c5 c6 c7;clear c0 c1 c2 c3 c4 c5 c6 c7;obtain ⟨c0,c1,c2,c3,c4,c5,c6,c7⟩:=hc8;replace c8:=hk4.c c8;replace c9:=hk4.c c9;replace s0:=hk4.c s0;replace s1:=hk4.c s1;clear hk4 hqf hqt hqo hq0;obtain ⟨PA,hPA⟩:∃ PA,PA=atT T path:=⟨_,rfl⟩;have HPA:=gi hPA;rw [←hPA] at QT ⊢;have HR4:=gi (show R=stepA T cp ru rn path PA by rw [hPA,HR3.o,Int.toNat_natCast]);clear hPA HR3 HAT;go_upto_region 8 with fail
 obtain ⟨V,hVe⟩:∃ V,V=w4.alloc (.cells #[H J op9,M sa9 set9.length sc9,M ka9 kids9.length kc9,H J mn9,H J mx9,H J mode9,H J n9,F neg9] 26):=⟨_,rfl⟩;obtain ⟨G8,hG8⟩:∃ G8,G8=w4.heap.size:=⟨_,rfl⟩;have hkV:Keeps [] w4 V:=by rw [hVe];exact Keeps.a1 _ _
 have hg8:V.heap[G8]? =some (.cells #[H J op9,M sa9 set9.length sc9,M ka9 kids9.length kc9,H J mn9,H J mx9,H J mode9,H J n9,F neg9] 26 (0,0)):=by rw [hVe,hG8];exact heap_alloc_new w4 _
 have HG8:=gi hg8;rw [←hVe,←hG8];have KV:=gi (K4.o.trans hkV);have QV:=gi (QO.o.keep hkV);have hc8:=hkV.c8 c0 c1 c2 c3 c4 c5 c6 c7;clear c0 c1 c2 c3 c4 c5 c6 c7;obtain ⟨c0,c1,c2,c3,c4,c5,c6,c7⟩:=hc8;replace c8:=hkV.c c8;replace c9:=hkV.c c9;replace s0:=hkV.c s0;replace s1:=hkV.c s1;have HTV:=gi ((K34.o.trans hkV).h HTAB.o);clear hVe hG8 hkV hg8 QO K4 K34 HTAB
 cases PA with
 | none=>
  simp only [Option.isSome_none,Bool.false_eq_true,if_false];have HRN:=gi (show R=(7,none) by rw [HR4.o];rfl);have HSV:=gi (set10_heap (KV.o.h HZ.o) (H J 0) (M none 0 0) (M none 0 0) (H J 0) (H J 0) (H J 0) (H J 0) (F false) (H J 0) (F false));have HKS:=gi ((HKX.o.trans KV.o).after (set10_keeps V (B + 1 + 1) (H J 0) (M none 0 0) (M none 0 0) (H J 0) (H J 0) (H J 0) (H J 0) (F false) (H J 0) (F false)) (by intro x hx;simp at hx;subst hx;exact .inr (by have:=HBE.o;omega)));obtain ⟨z0,z1,z2,z3,z4,z5,z6,z7,z8,z9,zf⟩:=row10_cells (KV.o.h HZ.o);go_wp2;refine bodyPost_ret (results_row_tmp rfl _ _ (B + 1 + 1) 28 #[H J 0,M none 0 0,M none 0 0,H J 0,H J 0,H J 0,H J 0,F false,H J 0,F false] (0,0) _ rfl HSV.o Tryz.underlying28 rfl sizePat) rfl ?_;exact PatOut.of_none (by rw [HRN.o]) (by rw [HRN.o];rfl) HKS.o
 | some x=>
  simp only [Option.isSome_some,if_true];have HR5:=gi (show R=stepB T cp ru path (ruleR rn x) from HR4.o);have hx:=atT_ok path HWF.o HPA.o.symm;have hqx:q0.tree=x:=QT.o;have HX:=gi hx;have HRU:=fun (W:World) (h:Keeps [] V W)=> (show Calls Tryz.prog (ruleFn rn) #[q0.val] W (AnyPost W q0.blocks (ruleR rn x)) from by
   have h0:=prule_any rn HRN0.o q0 W (QV.o.keep h) (by rw [hqx];exact hx.1) (by rw [hqx];have:=HBK.o;omega);rw [hqx] at h0;exact Calls.mono h0 fun _ _ h=> RulePost.any h)
  obtain ⟨O,hO⟩:∃ O,O=ruleR rn x:=⟨_,rfl⟩;rw [←hO] at HRU HR5;have HOB:=gi (show ∀ y,O=some y→y.bulk≤1000000 from fun y h=> by rw [hO] at h;have:=ruleR_bulk HRN0.o h;have:=HBK.o;omega);rw [Q0.o] at HRU;simp only [MRe.val] at HRU;have HRU:=gi HRU;have HLT:=gi QV.o.block_lt;have he:=enters_rule rn HRN0.o;unfold Enters at he;have ht:=table_cell HTV.o rn HRN0.o;obtain ⟨F',hF⟩:∃ F',F'=ruleFn rn:=⟨_,rfl⟩;rw [←hF] at HRU he ht;clear hF hO hx hqx HR4 HPA hr0 hr1 hrn;have hn0:(0:Int)≤(rn:Int):=by omega
  have hn1:(rn:Int) < 17:=by have:=HRN0.o;omega
  obtain ⟨e0,e1,e2,e3,e4,e5,e6,e7⟩:=row_cells HG8.o;go_upto_region 10 with fail
  go_cut [10,11] from 42 to 53 (fun s10 s11 wx=> ∃ (g10:Nat) (q:MRe) (U:World),s10=.pointer (some ⟨g10,0,none⟩)∧s11=F O.isSome∧U=wx∧q.tree=O.getD .nil∧q.OK U∧Keeps [] V U∧U.heap[g10]? =some (.cells q.row.toArray 26 (0,0)))
  case first=>
   have K0:=gi ((Keeps.refl [] V).drew);refine rg (S:=fun w'=> (w'.cell? ⟨G8,0,none⟩=some (H J op9)∧w'.cell? ⟨G8,1,none⟩=some (M sa9 set9.length sc9)∧w'.cell? ⟨G8,2,none⟩=some (M ka9 kids9.length kc9)∧w'.cell? ⟨G8,3,none⟩=some (H J mn9)∧w'.cell? ⟨G8,4,none⟩=some (H J mx9)∧w'.cell? ⟨G8,5,none⟩=some (H J mode9)∧w'.cell? ⟨G8,6,none⟩=some (H J n9)∧w'.cell? ⟨G8,7,none⟩=some (F neg9))∧w'.cell? ⟨B + 1,0,none⟩=some (H J rn)∧w'.cell? ⟨g,rn * 2 + 1,none⟩=some (.func (Fn.func F') #[] #[])) (fun _ k=> ⟨⟨k.c e0,k.c e1,k.c e2,k.c e3,k.c e4,k.c e5,k.c e6,k.c e7⟩,k.c s0,k.c ht⟩) fun kz hHeld=> ?_;refine tk 0 ?_;refine tk 1 ?_;refine tk 2 ?_;refine tk 3 ?_;refine tk 4 ?_;refine tk 5 ?_;refine tk 6 ?_;refine j7 7 11 (fun K hK=> ?_) fun K hK=> ?_
   ·go_simp;refine Calls.mono (HRU.o _ K0.o) ?_;rintro ee w5 ⟨q2,rfl,hqt,hqo,hk5,hqf⟩;obtain ⟨q5,hq5⟩:∃ q5,q5=q2:=⟨_,rfl⟩;rw [←hq5] at hqt hqo hqf;have Q5:=gi hq5;obtain ⟨op5,sa5,sc5,set5,ka5,kc5,kids5,mn5,mx5,mode5,n5,neg5⟩:=q2;simp only [MRe.val];have QT5:=gi (show MRe.tree (.node op5 sa5 sc5 set5 ka5 kc5 kids5 mn5 mx5 mode5 n5 neg5)=O.getD .nil by rw [←Q5.o];exact hqt);have QO5:=gi (show MRe.OK w5 (.node op5 sa5 sc5 set5 ka5 kc5 kids5 mn5 mx5 mode5 n5 neg5) by rw [←Q5.o];exact hqo);have K5:=gi (K0.o.trans hk5);have KA:=gi (K5.o.trans (Keeps.a1 w5 (.cells #[H J 0,M none 0 0,M none 0 0,H J 0,H J 0,H J 0,H J 0,F false] 26)));clear hqt hqo hk5 hqf hq5;refine hK.out _ _ (kz.o _ K5.o) fun hHeld=> ?_;clear hK K;try go_frame
    refine tk 8 ?_;refine tk 9 ?_;refine tk 10 ?_;refine j6 11 fun K hK=> ?_;go_simp;refine hK.out _ _ (kz.o _ KA.o) fun hHeld=> ?_;clear hK K;try go_frame
    refine j6 12 fun K hK=> ?_;refine wp_store_row 26 (.tmp 10) (.tmp 51) rfl w5.heap.size #[H J op5,M sa5 set5.length sc5,M ka5 kids5.length kc5,H J mn5,H J mx5,H J mode5,H J n5,F neg5] rfl rfl 26 #[H J 0,M none 0 0,M none 0 0,H J 0,H J 0,H J 0,H J 0,F false] (heap_alloc_new w5 _) sizeRe rfl (row_all _ _ _ _ _ _ _ _ _ _ _ _) ?_;have hbx:=box_storeB (W0:=V) (heap_alloc_new w5 _) KA.o K5.o.size (QO5.o.keep (Keeps.a1 w5 _)) QT5.o (fun b hb=> by have:=QO5.o.block_lt b hb;omega);obtain ⟨qq,VV,hVe,h1,h2,h3,h4⟩:=hbx;rw [←hVe];have HBX:=gi (And.intro h1 (And.intro h2 (And.intro h3 h4)));refine hK.out _ _ ⟨⟨h3.c e0,h3.c e1,h3.c e2,h3.c e3,h3.c e4,h3.c e5,h3.c e6,h3.c e7⟩,h3.c s0,h3.c ht⟩ (fun hHeld=> ?_);clear hK K hVe h1 h2 h3 h4;try go_frame
    refine tk 13 ?_;refine wd ?_;go_wp2;go_meet;exact ⟨w5.heap.size,qq,VV,rfl,rfl,rfl,HBX.o.1,HBX.o.2.1,HBX.o.2.2.1,HBX.o.2.2.2⟩
   ·go_simp;have KA:=gi (K0.o.alloc (.cells #[H J 0,M none 0 0,M none 0 0,H J 0,H J 0,H J 0,H J 0,F false] 26));refine hK.out _ _ (kz.o _ KA.o) fun hHeld=> ?_;clear hK K;try go_frame
    refine j6 7 fun K hK=> ?_;go_simp;refine Calls.mono (HRU.o _ KA.o) ?_;rintro ee w5 ⟨q2,rfl,hqt,hqo,hk5,hqf⟩;obtain ⟨q5,hq5⟩:∃ q5,q5=q2:=⟨_,rfl⟩;rw [←hq5] at hqt hqo hqf;have Q5:=gi hq5;obtain ⟨op5,sa5,sc5,set5,ka5,kc5,kids5,mn5,mx5,mode5,n5,neg5⟩:=q2;simp only [MRe.val];have QT5:=gi (show MRe.tree (.node op5 sa5 sc5 set5 ka5 kc5 kids5 mn5 mx5 mode5 n5 neg5)=O.getD .nil by rw [←Q5.o];exact hqt);have QO5:=gi (show MRe.OK w5 (.node op5 sa5 sc5 set5 ka5 kc5 kids5 mn5 mx5 mode5 n5 neg5) by rw [←Q5.o];exact hqo);have K5:=gi (KA.o.trans hk5);have hz7:=hk5.heap (heap_alloc_new V.drew (.cells #[H J 0,M none 0 0,M none 0 0,H J 0,H J 0,H J 0,H J 0,F false] 26)) (by simp);have hz7:w5.heap[V.heap.size]? =some (.cells #[H J 0,M none 0 0,M none 0 0,H J 0,H J 0,H J 0,H J 0,F false] 26 (0,0)):=hz7;have HZ7:=gi hz7;have QF5:=gi (show ∀ b∈MRe.blocks (.node op5 sa5 sc5 set5 ka5 kc5 kids5 mn5 mx5 mode5 n5 neg5),b≠V.heap.size from fun b hb=> by
     rw [←Q5.o] at hb
     rcases hqf b hb with h | h
     ·have h0:=HLT.o b (by rw [Q0.o];exact h);omega
     ·have h:V.heap.size + 1≤b:=by simpa using h
      omega)
    clear hqt hqo hk5 hqf hq5 hz7;refine hK.out _ _ (kz.o _ K5.o) fun hHeld=> ?_;clear hK K;try go_frame
    refine tk 8 ?_;refine tk 9 ?_;refine tk 10 ?_;refine j6 12 fun K hK=> ?_;refine wp_store_row 26 (.tmp 10) (.tmp 51) rfl V.heap.size #[H J op5,M sa5 set5.length sc5,M ka5 kids5.length kc5,H J mn5,H J mx5,H J mode5,H J n5,F neg5] rfl rfl 26 #[H J 0,M none 0 0,M none 0 0,H J 0,H J 0,H J 0,H J 0,F false] HZ7.o sizeRe rfl (row_all _ _ _ _ _ _ _ _ _ _ _ _) ?_;have hbx:=box_storeB (W0:=V) HZ7.o K5.o (Nat.le_refl _) QO5.o QT5.o QF5.o;obtain ⟨qq,VV,hVe,h1,h2,h3,h4⟩:=hbx;rw [←hVe];have HBX:=gi (And.intro h1 (And.intro h2 (And.intro h3 h4)));refine hK.out _ _ ⟨⟨h3.c e0,h3.c e1,h3.c e2,h3.c e3,h3.c e4,h3.c e5,h3.c e6,h3.c e7⟩,h3.c s0,h3.c ht⟩ (fun hHeld=> ?_);clear hK K hVe h1 h2 h3 h4;try go_frame
    refine tk 13 ?_;refine wd ?_;go_wp2;go_meet;exact ⟨V.heap.size,qq,VV,rfl,rfl,rfl,HBX.o.1,HBX.o.2.1,HBX.o.2.2.1,HBX.o.2.2.2⟩
  case rest=>
   obtain ⟨g10,q6,U,rfl,rfl,rfl,hqt,hqo,hkU,hg10⟩:=hcut;obtain ⟨q7,hq7⟩:∃ q7,q7=q6:=⟨_,rfl⟩;rw [←hq7] at hqt hqo;have Q7:=gi hq7;have QT7:=gi hqt;have QO7:=gi hqo;have KU:=gi (KV.o.trans hkU);have hc8:=hkU.c8 c0 c1 c2 c3 c4 c5 c6 c7;clear c0 c1 c2 c3 c4 c5 c6 c7;obtain ⟨c0,c1,c2,c3,c4,c5,c6,c7⟩:=hc8;replace c8:=hkU.c c8;replace c9:=hkU.c c9;replace s1:=hkU.c s1;obtain ⟨op7,sa7,sc7,set7,ka7,kc7,kids7,mn7,mx7,mode7,n7,neg7⟩:=q6;have HG10:=gi (show U.heap[g10]? =some (.cells #[H J op7,M sa7 set7.length sc7,M ka7 kids7.length kc7,H J mn7,H J mx7,H J mode7,H J n7,F neg7] 26 (0,0)) from hg10);clear hqt hqo hkU hg10 hq7 e0 e1 e2 e3 e4 e5 e6 e7 s0 ht he hn0 hn1 HRU
   cases O with
   | none=>
    simp only [Option.isSome_none];have HRN:=gi (show R=(10,none) by rw [HR5.o];rfl);have HSV:=gi (set10_heap (KU.o.h HZ.o) (H J 0) (M none 0 0) (M none 0 0) (H J 0) (H J 0) (H J 0) (H J 0) (F false) (H J 0) (F false));have HKS:=gi ((HKX.o.trans KU.o).after (set10_keeps U (B + 1 + 1) (H J 0) (M none 0 0) (M none 0 0) (H J 0) (H J 0) (H J 0) (H J 0) (F false) (H J 0) (F false)) (by intro x hx;simp at hx;subst hx;exact .inr (by have:=HBE.o;omega)));obtain ⟨z0,z1,z2,z3,z4,z5,z6,z7,z8,z9,zf⟩:=row10_cells (KU.o.h HZ.o);go_wp2;refine bodyPost_ret (results_row_tmp rfl _ _ (B + 1 + 1) 28 #[H J 0,M none 0 0,M none 0 0,H J 0,H J 0,H J 0,H J 0,F false,H J 0,F false] (0,0) _ rfl HSV.o Tryz.underlying28 rfl sizePat) rfl ?_;exact PatOut.of_none (by rw [HRN.o]) (by rw [HRN.o];rfl) HKS.o
   | some y=>
    simp only [Option.isSome_some];obtain ⟨f0,f1,f2,f3,f4,f5,f6,f7⟩:=row_cells HG10.o;have HPW:=HPUT.o U KU.o q7 QO7.o (by have:=HBK.o;omega) (by have h:q7.tree=y:=QT7.o;rw [h];exact HOB.o y rfl);rw [show q7.tree=y from QT7.o,Q7.o] at HPW;have HPW:=gi HPW;have HR6:=gi (show R=if (putV T cp ru path y).isSome then (0,putV T cp ru path y) else (4,none) from HR5.o);obtain ⟨P,hP⟩:∃ P,P=putV T cp ru path y:=⟨_,rfl⟩;rw [←hP] at HPW HR6;clear hP HR5 HPUT;go_wp2_with fail
    refine Calls.mono HPW.o ?_;rintro e w7 ⟨q8,cp8,ru8,rfl,hqt,hcp,hru,hqo,hk7,hqf⟩;have K7:=gi (KU.o.trans hk7);obtain ⟨q9,hq9⟩:∃ q9,q9=q8:=⟨_,rfl⟩;rw [←hq9] at hqt hqo hqf;have HQF9:=gi (show ∀ b∈q9.blocks,B + 1 + 1 < b from fun b hb=> by have:=hqf b hb;have:=lt_of_block (KU.o.h HZ.o);omega);have Q9:=gi hq9;have QT9:=gi hqt;have QO9:=gi hqo;have HCP:=gi hcp;have HRUN:=gi hru;obtain ⟨op8,sa8,sc8,set8,ka8,kc8,kids8,mn8,mx8,mode8,n8,neg8⟩:=q8;simp only [patVal,MRe.row,List.cons_append,List.nil_append];clear hqt hcp hru hqo hk7 hq9 hqf f0 f1 f2 f3 f4 f5 f6 f7 c0 c1 c2 c3 c4 c5 c6 c7 c8 c9 s1 HPW;go_upto_region 14 with fail
    obtain ⟨Y,hYe⟩:∃ Y,Y=w7.alloc (.cells #[H J op8,M sa8 set8.length sc8,M ka8 kids8.length kc8,H J mn8,H J mx8,H J mode8,H J n8,F neg8,H J cp8,F ru8] 28):=⟨_,rfl⟩;obtain ⟨G12,hG12⟩:∃ G12,G12=w7.heap.size:=⟨_,rfl⟩;have hkY:Keeps [] w7 Y:=by rw [hYe];exact Keeps.a1 _ _
    have hg12:Y.heap[G12]? =some (.cells #[H J op8,M sa8 set8.length sc8,M ka8 kids8.length kc8,H J mn8,H J mx8,H J mode8,H J n8,F neg8,H J cp8,F ru8] 28 (0,0)):=by rw [hYe,hG12];exact heap_alloc_new w7 _
    have HG12:=gi hg12;rw [←hYe,←hG12];have KY:=gi (K7.o.trans hkY);have QY:=gi (QO9.o.keep hkY);have HKYZ:=gi (show B + 1 + 1 < w7.heap.size from lt_of_block (K7.o.h HZ.o));clear hYe hG12 hkY hg12
    cases P with
    | none=>
     simp only [Option.isSome_none];have HRN:=gi (show R=(4,none) by rw [HR6.o];rfl);have HSV:=gi (set10_heap (KY.o.h HZ.o) (H J 0) (M none 0 0) (M none 0 0) (H J 0) (H J 0) (H J 0) (H J 0) (F false) (H J 0) (F false));have HKS:=gi ((HKX.o.trans KY.o).after (set10_keeps Y (B + 1 + 1) (H J 0) (M none 0 0) (M none 0 0) (H J 0) (H J 0) (H J 0) (H J 0) (F false) (H J 0) (F false)) (by intro x hx;simp at hx;subst hx;exact .inr (by have:=HBE.o;omega)));obtain ⟨z0,z1,z2,z3,z4,z5,z6,z7,z8,z9,zf⟩:=row10_cells (KY.o.h HZ.o);go_wp2;refine bodyPost_ret (results_row_tmp rfl _ _ (B + 1 + 1) 28 #[H J 0,M none 0 0,M none 0 0,H J 0,H J 0,H J 0,H J 0,F false,H J 0,F false] (0,0) _ rfl HSV.o Tryz.underlying28 rfl sizePat) rfl ?_;exact PatOut.of_none (by rw [HRN.o]) (by rw [HRN.o];rfl) HKS.o
    | some z=>
     simp only [Option.isSome_some];have hcp:=HCP.o;have hru:=HRUN.o;rw [Option.isSome_some,if_pos rfl] at hcp;rw [Option.isSome_some,Bool.true_and] at hru;replace hcp:=hcp.symm;replace hru:=hru.symm;subst hcp;subst hru;have HRS:=gi (show R=(0,some z) from HR6.o);obtain ⟨e0,e1,e2,e3,e4,e5,e6,e7,e8,e9,ef⟩:=row10_cells HG12.o;have HSV:=gi (set10_heap (KY.o.h HZ.o) (H J op8) (M sa8 set8.length sc8) (M ka8 kids8.length kc8) (H J mn8) (H J mx8) (H J mode8) (H J n8) (F neg8) (H J cp) (F ru));have kS:=set10_keeps Y (B + 1 + 1) (H J op8) (M sa8 set8.length sc8) (M ka8 kids8.length kc8) (H J mn8) (H J mx8) (H J mode8) (H J n8) (F neg8) (H J cp) (F ru);have HKS:=gi ((HKX.o.trans KY.o).after kS (by intro x hx;simp at hx;subst hx;exact .inr (by have:=HBE.o;omega)));have HQ6:=gi (QY.o.keepS kS fun b hb=> by have:=HQF9.o b hb;simp;omega);obtain ⟨z0,z1,z2,z3,z4,z5,z6,z7,z8,z9,zf⟩:=row10_cells (KY.o.h HZ.o);clear kS;go_wp2;refine bodyPost_ret (results_row_tmp rfl _ _ (B + 1 + 1) 28 #[H J op8,M sa8 set8.length sc8,M ka8 kids8.length kc8,H J mn8,H J mx8,H J mode8,H J n8,F neg8,H J cp,F ru] (0,0) _ rfl HSV.o Tryz.underlying28 rfl sizePat) rfl ?_;exact PatOut.of_some q9 (by rw [HRS.o,show q9.tree=z from QT9.o]) (by rw [HRS.o,Q9.o];rfl) HQ6.o HKS.o (fun b hb=> by have:=HQF9.o b hb;have:=HBE.o;omega)
structure SRow where
 rule:Int
 pa:Option Addr
 path:List Int
 pc:Nat
def flatS (rows:List SRow):List Value:=rows.flatMap fun r=> [H J r.rule,M r.pa r.path.length r.pc]
theorem flatS_length (rows:List SRow):(flatS rows).length=rows.length * 2:=by
 induction rows with
 | nil=> rfl
 | cons r rows ih=> simp only [flatS,List.flatMap_cons,List.length_append,List.length_cons,List.length_nil] at ih ⊢;omega
theorem flatS_get (rows:List SRow):∀ (k:Nat) (h:k < rows.length),(flatS rows)[k * 2]? =some (H J rows[k].rule)∧(flatS rows)[k * 2 + 1]? =some (M rows[k].pa rows[k].path.length rows[k].pc):=by
 induction rows with
 | nil=> intro k h;simp at h
 | cons r rows ih=>
  intro k h
  cases k with
  | zero=> simp [flatS]
  | succ k=>
   have:=ih k (by simpa using h)
   have e:flatS (r::rows)=[H J r.rule,M r.pa r.path.length r.pc] ++ flatS rows:=by simp [flatS]
   have e1:(k + 1) * 2=k * 2 + 2:=by omega
   have e2:(k + 1) * 2 + 1=(k * 2 + 1) + 2:=by omega
   rw [e,e1,show k * 2 + 2 + 1=(k * 2 + 1) + 2 by omega]
   simpa using this
theorem flatS_append (a b:List SRow):flatS (a ++ b)=flatS a ++ flatS b:=by simp [flatS]
structure StepsAt (w:World) (e:Nat) (a:Option Nat) (c:Nat) (rows:List SRow):Prop where
 sl:SliceAt w e 2 a rows.length c (flatS rows)
 ints:∀ r∈rows,IntsIn w r.pa r.path
theorem StepsAt.keep0 {w w':World} {e:Nat} {a:Option Nat} {c:Nat} {rows:List SRow} (h:StepsAt w e a c rows) (k:Keeps [] w w'):StepsAt w' e a c rows:=
 ⟨h.sl.keep k (by simp),fun r hr=> (h.ints r hr).keepS k (fun _ _=> by simp)⟩
theorem StepsAt.cells {w:World} {e:Nat} {g:Nat} {c:Nat} {rows:List SRow} (h:StepsAt w e (some g) c rows) (k:Nat) (hk:k < rows.length):
  w.cell? ⟨g,k * 2,none⟩=some (H J rows[k].rule)∧w.cell? ⟨g,k * 2 + 1,none⟩=some (M rows[k].pa rows[k].path.length rows[k].pc):=by
 have hl:=flatS_length rows;obtain ⟨h1,h2⟩:=flatS_get rows k hk;obtain ⟨i1,e1⟩:=List.getElem?_eq_some_iff.1 h1;obtain ⟨i2,e2⟩:=List.getElem?_eq_some_iff.1 h2;rw [h.sl.cell _ i1,h.sl.cell _ i2,e1,e2];exact ⟨rfl,rfl⟩
theorem infoRS:(Tryz.prog.info? 61).map (fun i=> (i.zero,i.size,i.bytes))=some (some (.agg #[H J 0,M none 0 0]),2,32):=by kernel_rfl
def SRow.s (r:SRow):Int × List Int:=(r.rule,r.path)
theorem box_store10 {W0 w3:World} {g:Nat} {T:Tree} {op sa sc set ka kc kids mn mx mode n neg} {cp:Int} {ru:Bool} (hz:w3.heap[g]? =some (.cells #[H J 0,M none 0 0,M none 0 0,H J 0,H J 0,H J 0,H J 0,F false,H J 0,F false] 28 (0,0))) (hk:Keeps [] W0 w3) (hg:W0.heap.size≤g) (qo:MRe.OK w3 (.node op sa sc set ka kc kids mn mx mode n neg)) (ht:MRe.tree (.node op sa sc set ka kc kids mn mx mode n neg)=T) (hfr:∀ b∈(MRe.blocks (.node op sa sc set ka kc kids mn mx mode n neg)),W0.heap.size≤b) (hne:∀ b∈(MRe.blocks (.node op sa sc set ka kc kids mn mx mode n neg)),b≠g):
  ∃ (q:MRe) (V:World),V=w3.setRow g #[H J op,M sa set.length sc,M ka kids.length kc,H J mn,H J mx,H J mode,H J n,F neg,H J cp,F ru]∧q.tree=T∧q.OK V∧Keeps [] W0 V∧V.heap[g]? =some (.cells (q.row ++ [H J cp,Value.bool ru]).toArray 28 (0,0))∧(∀ b∈q.blocks,b≠g)∧∀ b∈q.blocks,W0.heap.size≤b:=by
 have hk8:Keeps [g] w3 (w3.setRow g #[H J op,M sa set.length sc,M ka kids.length kc,H J mn,H J mx,H J mode,H J n,F neg,H J cp,F ru]):=(Keeps.refl [g] w3).setRow (.inl (by simp)) _;exact ⟨.node op sa sc set ka kc kids mn mx mode n neg,_,rfl,ht,qo.keepS hk8 fun b hb=> by have:=hne b hb;simp;exact this,hk.after hk8 (by intro x hx;simp at hx;subst hx;exact .inr hg),setRow_heap w3 g _ _ _ _ hz,hne,hfr⟩
end Go.Proofs.YtjnlkjlbejelgaaGreat
