/- Part 14 of the proof. No condition: every lemma says its own. -/
import Derived.Test.YtjnlkjlbejelgaaGreatLam
namespace Go.Proofs.YtjnlkjlbejelgaaGreat
open Go.RowKit
open Go.Value renaming int→H,slice→M,bool→F
open Go.IntKind renaming i64→J
set_option maxRecDepth 100000
set_option maxHeartbeats 16000000
theorem len64_zero (w:World):Calls Tryz.prog 168 #[.int .u64 0] w fun e w'=> e=.returned (H J 0)∧w=w':=by
 have h8:Lib.len8 0=0:=by decide +kernel
 have h9:wrap64 0=0:=by unfold wrap64;omega
 go_enter Tryz.func168,Tryz.ntmps168
 go_wp2;go_ret;exact ⟨rfl,rfl⟩
theorem len_zero (w:World):Calls Tryz.prog 157 #[.int .u64 0] w fun e w'=> e=.returned (H J 0)∧w=w':=by
 go_enter Tryz.func157,Tryz.ntmps157
 go_wp2_with fail
 refine Calls.mono (len64_zero _) ?_;rintro e w2 ⟨rfl,rfl⟩;go_wp2;go_ret;exact ⟨rfl,rfl⟩
theorem insertion_zero (w:World):Calls Tryz.prog 158 #[M none 0 0,H J 0,H J 0] w fun e w'=> e=.returned (.tuple #[])∧w=w':=by
 go_enter Tryz.func158,Tryz.ntmps158
 go_wp2
 go_loopw [6] (fun i wr=> i=H J 1∧w=wr) (fun _ _=> 0)
 case atStart=> exact ⟨rfl,rfl⟩
 case round=>
  obtain ⟨rfl,rfl⟩:=hrel;go_wp2
  go_end0
  exact ⟨rfl,rfl⟩
theorem pdq_zero (w:World):Calls Tryz.prog 156 #[M none 0 0,H J 0,H J 0,H J 0] w fun e w'=> e=.returned (.tuple #[])∧w=w':=by
 go_enter Tryz.func156,Tryz.ntmps156
 go_wp2
 go_loopw [1,2,3,8,9] (fun a b c d e wr=> a=H J 0∧b=H J 0∧c=H J 0∧d=F true∧e=F true∧w=wr) (fun _ _ _ _ _ _=> 0)
 case atStart=> exact ⟨rfl,rfl,rfl,rfl,rfl,rfl⟩
 case round=>
  obtain ⟨rfl,rfl,rfl,rfl,rfl,rfl⟩:=hrel;go_wp2_with fail
  refine Calls.mono (insertion_zero _) ?_;rintro e w2 ⟨rfl,rfl⟩;go_wp2
  (try simp only [Exit.inBlock,Exit.then])
  refine bodyPost_ret (results_none rfl _ _ _) rfl ?_;exact ⟨rfl,rfl⟩
theorem sort_nil (w:World):Calls Tryz.prog 153 #[M none 0 0] w fun e w'=> e=.returned (.tuple #[])∧w=w':=by
 go_enter Tryz.func153,Tryz.ntmps153
 go_wp2_with fail
 refine Calls.mono (len_zero _) ?_;rintro e w2 ⟨rfl,rfl⟩;go_wp2_with fail
 refine Calls.mono (pdq_zero _) ?_;rintro e w2 ⟨rfl,rfl⟩;go_wp2
 go_end0
 exact ⟨rfl,rfl⟩
theorem compact_nil (w:World):Calls Tryz.prog 154 #[M none 0 0] w fun e w'=> e=.returned (M none 0 0)∧w=w':=by
 go_enter Tryz.func154,Tryz.ntmps154
 go_wp2;go_ret;exact ⟨rfl,rfl⟩
theorem combine_none (K:Nat) (G:Nat) (aa ba:Option Addr) (ac bc:Nat) (w:World) (hl:Lists w G aa ac [] ba bc []):
  Calls Tryz.prog 151 #[.func (Fn.func K) #[] #[],M (some ⟨G,0,none⟩) 2 2] w fun e w'=> e=.returned (M none 0 0)∧Keeps [] w w':=by
 have HL:=gi hl;clear hl;go_enter Tryz.func151,Tryz.ntmps151
 go_wp2
 go_loopw [5,19] (fun v i wr=> ∃ j:Nat,j≤2∧i=H J j∧v=M none 0 0∧Keeps [] w wr) (fun _ i _=> 2 - (intOf i).toNat)
 case atStart=> exact ⟨0,by omega,rfl,rfl,Keeps.refl _ _⟩
 case round=>
  obtain ⟨j,hj,rfl,rfl,hkw⟩:=hrel;have HKW:=gi hkw;clear hkw
  by_cases hlt:j < 2
  ·obtain ⟨la,lc,l,hc0,hsp,hpre,hj0,hj1,hlab⟩:=HL.o.at_ j hlt;have hl0:l=[]:=by rcases hlab with h | h <;> exact h
   subst hl0;have hc:=HKW.o.c hc0;have hlti:(j:Int) < 2:=by omega
   simp only [List.length_nil] at hc;clear hc0 hsp hpre hj0 hj1 hlab;go_wp2
   go_loopw [5,25] (fun v i wq=> i=H J 0∧v=M none 0 0∧Keeps [] w wq) (fun _ _ _=> 0)
   case atStart=> exact ⟨rfl,rfl,HKW.o⟩
   case round=>
    obtain ⟨rfl,rfl,hkq⟩:=hrel;have HKQ:=gi hkq;clear hkq hc;go_wp2;go_roundw
    case rel=> exact ⟨j + 1,by omega,by go_num,rfl,HKQ.o⟩
    case measure=> simp [intOf];omega
  ·obtain rfl:j=2:=by omega
   clear hlt hj;go_wp2_with fail
   refine Calls.mono (sort_nil _) ?_;rintro e w2 ⟨rfl,rfl⟩;go_wp2_with fail
   refine Calls.mono (compact_nil _) ?_;rintro e w2 ⟨rfl,rfl⟩;have hm1:=make_two Tryz.underlying142 infoB rfl (by omega);have hm2:=make_two Tryz.underlying22 infoI rfl (by omega);go_upto_region 16 with fail
   clear hm1 hm2;obtain ⟨X,hX⟩:∃ X,X=(wr.alloc (.cells #[F false,F false] 4)).alloc (.cells #[H J 0,H J 0] 3):=⟨_,rfl⟩;have hkX:Keeps [] w X:=by rw [hX];exact HKW.o.trans (Keeps.a2 _ _ _)
   rw [←hX];have KX:=gi hkX;clear hX hkX;go_wp2
   go_loopw [12,13] (fun v i wq=> i=H J 0∧v=M none 0 0∧wq=X) (fun _ _ _=> 0)
   case atStart=> exact ⟨rfl,rfl,rfl⟩
   case round=>
    obtain ⟨rfl,rfl,rfl⟩:=hrel;go_wp2;go_ret;exact ⟨rfl,KX.o⟩
theorem combP_none (kp:Bool→Bool→Bool):combP kp [] []=[]:=by
 have h:endsP [] []=[]:=by
  have h1:=compact_len ((endsF ([] ++ [])).mergeSort fun x y=> decide (x≤y));rw [List.length_mergeSort] at h1;exact List.eq_nil_of_length_eq_zero (Nat.le_zero.1 h1)
 unfold combP;rw [h]
 rfl
theorem combine_all (K:Nat) (kp:Bool→Bool→Bool) (G:Nat) (aa ba:Option Addr) (ac bc:Nat) (A B:List (Int × Int)) (w:World) (he:Enters K)
  (hkp:∀ (g c:Nat) (b0 b1:Bool) (W:World),W.cell? ⟨g,0,none⟩=some (F b0)→W.cell? ⟨g,1,none⟩=some (F b1)→Calls Tryz.prog K #[M (some ⟨g,0,none⟩) 2 c] W fun e w'=> e=.returned (F (kp b0 b1))∧w'=W)
  (hl:Lists w G aa ac A ba bc B) (ha:SpansOK A) (hb:SpansOK B) (hal:A.length≤64) (hbl:B.length≤64):
  Calls Tryz.prog 151 #[.func (Fn.func K) #[] #[],M (some ⟨G,0,none⟩) 2 2] w fun e w'=> ∃ (a:Option Nat) (c:Nat),e=.returned (sv a (combP kp A B).length c)∧SliceAt w' 86 2 a (combP kp A B).length c (flatP (combP kp A B))∧Keeps [] w w'∧∀ g,a=some g→w.heap.size≤g:=by
 by_cases hne:A ++ B=[]
 ·obtain ⟨rfl,rfl⟩:=List.append_eq_nil_iff.1 hne;refine (combine_none K G aa ba ac bc w hl).mono ?_;rintro e w' ⟨rfl,hk⟩;rw [combP_none];exact ⟨none,0,rfl,SliceAt.nil _ _ _,hk,by simp⟩
 ·exact combine_any K kp G aa ba ac bc A B w he hkp hl ha hb hal hbl hne
def unionP (A B:List (Int × Int)):List (Int × Int):=combP (fun a b=> a || b) A B
def UnionPost (w:World) (r:List (Int × Int)) (e:Ending) (w':World):Prop:=
 ∃ (a:Option Nat) (c:Nat),(if r.length≤64 then e=.returned (.tuple #[sv a r.length c,H J 0]) else e=.returned (.tuple #[M none 0 0,H J 4]))∧SliceAt w' 86 2 a r.length c (flatP r)∧Keeps [] w w'∧∀ g,a=some g→w.heap.size≤g
theorem enters_either:Enters 145:=enters_of Tryz.func145 (by kernel_rfl) rfl
theorem spair_any (aa ba:Option Addr) (ac bc:Nat) (A B:List (Int × Int)) (w:World) (s0:SpansIn w aa ac A) (s1:SpansIn w ba bc B) (ha:SpansOK A) (hb:SpansOK B) (hal:A.length≤64) (hbl:B.length≤64):
  Calls Tryz.prog 144 #[M aa A.length ac,M ba B.length bc,.func (Fn.func 145) #[] #[]] w (UnionPost w (unionP A B)):=by
 have HV0:=gi (fun (W:World) (h:Keeps [] w W)=> valid_any aa ac A W (s0.keep h) ha hal);have HV1:=gi (fun (W:World) (h:Keeps [] w W)=> valid_any ba bc B W (s1.keep h) hb hbl);have HC:=gi (fun (W:World) (G:Nat) (h:Lists W G aa ac A ba bc B)=> combine_all 145 (fun a b=> a || b) G aa ba ac bc A B W enters_either (fun g c b0 b1 W h0 h1=> either_any g b0 b1 c W h0 h1) h ha hb hal hbl);have HS0:=gi s0;have HS1:=gi s1;clear s0 s1 ha hb hal hbl;go_enter Tryz.func144,Tryz.ntmps144
 go_wp2_with fail
 refine Calls.mono (HV0.o _ (Keeps.refl _ _)) ?_;rintro e w2 ⟨rfl,hk2⟩;have K2:=gi hk2;clear hk2;go_wp2_with fail
 refine Calls.mono (HV1.o _ K2.o) ?_;rintro e w3 ⟨rfl,hk3⟩;have K3:=gi (K2.o.trans hk3);clear hk3;go_wp2_with fail
 refine Calls.mono (HC.o _ w3.heap.size ⟨by simp,by simp,HS0.o.keep (K3.o.alloc _),HS1.o.keep (K3.o.alloc _)⟩) ?_;rintro e w4 ⟨a,c,rfl,hsl,hk4,hg⟩;have HSL:=gi hsl;have K4:=gi ((K3.o.alloc _).trans hk4);have HG:=gi (show ∀ g,a=some g→w.heap.size≤g from fun g h=> by have h1:=hg g h;have h2:=(K3.o.alloc (.cells #[M aa A.length ac,M ba B.length bc] 23)).size;simp at h1 h2;omega);clear hsl hk4 hg;obtain ⟨r,hr⟩:∃ r,r=combP (fun a b=> a || b) A B:=⟨_,rfl⟩;have hu:unionP A B=r:=hr.symm;rw [←hr] at HSL ⊢;have HU:=gi hu;have HLI:=limited_any (a.map fun g=> ⟨g,0,none⟩) r.length c w4;have HLI:=gi HLI;clear hr hu;go_wp2_with fail
 refine Calls.mono HLI.o ?_;rintro e w5 ⟨he,rfl⟩
 by_cases hle:r.length≤64
 ·rw [if_pos hle] at he;subst he;go_wp2
  go_ret2
  rw [HU.o];exact ⟨a,c,by rw [if_pos hle];rfl,HSL.o,K4.o,HG.o⟩
 ·rw [if_neg hle] at he;subst he;go_wp2
  go_ret2
  rw [HU.o];exact ⟨a,c,by rw [if_neg hle];rfl,HSL.o,K4.o,HG.o⟩
theorem sunion_any (aa ba:Option Addr) (ac bc:Nat) (A B:List (Int × Int)) (w:World) (s0:SpansIn w aa ac A) (s1:SpansIn w ba bc B) (ha:SpansOK A) (hb:SpansOK B) (hal:A.length≤64) (hbl:B.length≤64):
  Calls Tryz.prog 124 #[M aa A.length ac,M ba B.length bc] w (UnionPost w (unionP A B)):=by
 have HP:=gi (spair_any aa ba ac bc A B w s0 s1 ha hb hal hbl);obtain ⟨r,hr⟩:∃ r,r=unionP A B:=⟨_,rfl⟩;rw [←hr] at HP ⊢;clear s0 s1 ha hb hal hbl hr;go_enter Tryz.func124,Tryz.ntmps124
 go_wp2_with fail
 refine Calls.mono HP.o ?_;rintro e w2 ⟨a,c,he,hsl,hk,hg⟩;have HSL:=gi hsl;have HK:=gi hk;have HG:=gi hg;clear hsl hk hg HP
 by_cases hle:r.length≤64
 ·rw [if_pos hle] at he;subst he;go_wp2
  go_ret2
  exact ⟨a,c,by rw [if_pos hle];rfl,HSL.o,HK.o,HG.o⟩
 ·rw [if_neg hle] at he;subst he;go_wp2
  go_ret2
  exact ⟨a,c,by rw [if_neg hle];rfl,HSL.o,HK.o,HG.o⟩
def uT (a b:Tree):Bool:=a.op==1 && (b.op==1 && decide ((unionP a.set b.set).length≤64))
def VarAt (w:World) (V:Nat):Prop:=∃ (a:Option Addr) (n c:Nat),w.heap[V]? =some (.cells #[M a n c] 23 (0,0))
def VarIs (w:World) (V lo:Nat) (r:List (Int × Int)):Prop:=∃ (a:Option Nat) (c:Nat),w.heap[V]? =some (.cells #[sv a r.length c] 23 (0,0))∧SliceAt w 86 2 a r.length c (flatP r)∧∀ g,a=some g→lo≤g
def UPost (W:World) (V:Nat) (t1 t2:Tree) (e:Ending) (w':World):Prop:=
 e=.returned (F (uT t1 t2))∧Keeps [V] W w'∧VarAt w' V∧(uT t1 t2=true→VarIs w' V W.heap.size (unionP t1.set t2.set))
theorem union1_any (m1 m2:MRe) (V:Nat) (w:World) (k1:m1.OK w) (k2:m2.OK w) (f1:m1.tree.WF) (f2:m2.tree.WF) (hv:VarAt w V):
  Calls Tryz.prog 123 #[m1.val,m2.val,.pointer (some ⟨V,0,none⟩)] w (UPost w V m1.tree m2.tree):=by
 obtain ⟨op1,sa1,sc1,set1,ka1,kc1,kids1,mn1,mx1,mode1,n1,neg1⟩:=m1;obtain ⟨op2,sa2,sc2,set2,ka2,kc2,kids2,mn2,mx2,mode2,n2,neg2⟩:=m2;have hT:∀ e w',UPost w V (.node op1 set1 (MRe.trees kids1) mn1 mx1 mode1 n1 neg1) (.node op2 set2 (MRe.trees kids2) mn2 mx2 mode2 n2 neg2) e w'→UPost w V (MRe.tree (.node op1 sa1 sc1 set1 ka1 kc1 kids1 mn1 mx1 mode1 n1 neg1)) (MRe.tree (.node op2 sa2 sc2 set2 ka2 kc2 kids2 mn2 mx2 mode2 n2 neg2)) e w':=fun _ _ h=> h;refine Calls.mono ?_ hT;have hu:uT (.node op1 set1 (MRe.trees kids1) mn1 mx1 mode1 n1 neg1) (.node op2 set2 (MRe.trees kids2) mn2 mx2 mode2 n2 neg2)=(op1==1 && (op2==1 && decide ((unionP set1 set2).length≤64))):=rfl;have hs:unionP (Tree.set (.node op1 set1 (MRe.trees kids1) mn1 mx1 mode1 n1 neg1)) (Tree.set (.node op2 set2 (MRe.trees kids2) mn2 mx2 mode2 n2 neg2))=unionP set1 set2:=rfl;simp only [MRe.val];obtain ⟨B,hBe⟩:∃ B,B=w.heap.size:=⟨_,rfl⟩;obtain ⟨Y,hYe⟩:∃ Y,Y=(w.alloc (.cells #[H J op1,M sa1 set1.length sc1,M ka1 kids1.length kc1,H J mn1,H J mx1,H J mode1,H J n1,F neg1] 26)).alloc (.cells #[H J op2,M sa2 set2.length sc2,M ka2 kids2.length kc2,H J mn2,H J mx2,H J mode2,H J n2,F neg2] 26):=⟨_,rfl⟩;have hkY:Keeps [] w Y:=by rw [hYe];exact Keeps.a2 _ _ _
 obtain ⟨c0,c1,c2,c3,c4,c5,c6,c7⟩:Y.cell? ⟨B,0,none⟩=some (H J op1)∧Y.cell? ⟨B,1,none⟩=some (M sa1 set1.length sc1)∧Y.cell? ⟨B,2,none⟩=some (M ka1 kids1.length kc1)∧Y.cell? ⟨B,3,none⟩=some (H J mn1)∧Y.cell? ⟨B,4,none⟩=some (H J mx1)∧Y.cell? ⟨B,5,none⟩=some (H J mode1)∧Y.cell? ⟨B,6,none⟩=some (H J n1)∧Y.cell? ⟨B,7,none⟩=some (F neg1):=by rw [hYe,hBe];exact ((At8.box (m:=.node op1 sa1 sc1 set1 ka1 kc1 kids1 mn1 mx1 mode1 n1 neg1) (cs:=#[H J op1,M sa1 set1.length sc1,M ka1 kids1.length kc1,H J mn1,H J mx1,H J mode1,H J n1,F neg1]) rfl).keep (Keeps.a1 _ _)).cells0
 obtain ⟨d0,d1,d2,d3,d4,d5,d6,d7⟩:Y.cell? ⟨(B+1),0,none⟩=some (H J op2)∧Y.cell? ⟨(B+1),1,none⟩=some (M sa2 set2.length sc2)∧Y.cell? ⟨(B+1),2,none⟩=some (M ka2 kids2.length kc2)∧Y.cell? ⟨(B+1),3,none⟩=some (H J mn2)∧Y.cell? ⟨(B+1),4,none⟩=some (H J mx2)∧Y.cell? ⟨(B+1),5,none⟩=some (H J mode2)∧Y.cell? ⟨(B+1),6,none⟩=some (H J n2)∧Y.cell? ⟨(B+1),7,none⟩=some (F neg2):=by
  rw [hYe,hBe];have h:=(At8.box (w:=w.alloc (.cells #[H J op1,M sa1 set1.length sc1,M ka1 kids1.length kc1,H J mn1,H J mx1,H J mode1,H J n1,F neg1] 26)) (T:=26) (m:=.node op2 sa2 sc2 set2 ka2 kc2 kids2 mn2 mx2 mode2 n2 neg2) (cs:=#[H J op2,M sa2 set2.length sc2,M ka2 kids2.length kc2,H J mn2,H J mx2,H J mode2,H J n2,F neg2]) rfl);rw [show (w.alloc (.cells #[H J op1,M sa1 set1.length sc1,M ka1 kids1.length kc1,H J mn1,H J mx1,H J mode1,H J n1,F neg1] 26)).heap.size=w.heap.size + 1 by simp] at h;exact h.cells0
 have HYE:=gi hYe;have HBE:=gi hBe;have KY:=gi hkY;have HU:=gi hu;have HSS:=gi hs;obtain ⟨a,n,c,hv⟩:=hv;have HV:=gi hv;have S1:=gi k1.spans;have S2:=gi k2.spans;have N1:=gi (wf_node f1);have N2:=gi (wf_node f2);clear hYe hBe hkY hu hs hv k1 k2 f1 f2 hT
 by_cases a1:op1=1
 ·by_cases a2:op2=1
  ·subst a1;subst a2;have HUN:=gi (sunion_any sa1 sa2 sc1 sc2 set1 set2 Y (S1.o.keep KY.o) (S2.o.keep KY.o) (N1.o.hset rfl).1 (N2.o.hset rfl).1 (N1.o.hset rfl).2 (N2.o.hset rfl).2);obtain ⟨r,hr⟩:∃ r,r=unionP set1 set2:=⟨_,rfl⟩;rw [←hr] at HUN HU HSS;clear hr;go_enter Tryz.func123,Tryz.ntmps123
   go_upto_region 1 with fail
   rw [←HYE.o,←HBE.o];go_wp2_with fail
   refine Calls.mono HUN.o ?_;rintro e w2 ⟨g,c',he,hsl,hk2,hg⟩;have HSL:=gi hsl;have K2:=gi (KY.o.trans hk2);have HG:=gi (show ∀ x,g=some x→w.heap.size≤x from fun x h=> Nat.le_trans KY.o.size (hg x h));have HV2:=gi (K2.o.h HV.o);have vf:=row_frozen HV2.o;have v0:=cell_of_row HV2.o;clear hsl hk2 hg HUN c0 c1 c2 c3 c4 c5 c6 c7 d0 d1 d2 d3 d4 d5 d6 d7
   by_cases hle:r.length≤64
   ·rw [if_pos hle] at he;subst he;simp only [sv];go_wp2;go_ret;have hst:=(Keeps.refl [V] w2).setCell (p:=⟨V,0,none⟩) (.inl (by simp)) (sv g r.length c');refine ⟨by rw [HU.o];simp [hle],(K2.o.mono (by simp)).trans hst,⟨_,_,_,heap_setCell_same w2 V 0 _ _ _ HV2.o⟩,fun _=> ?_⟩;rw [HSS.o];refine ⟨g,c',heap_setCell_same w2 V 0 _ _ _ HV2.o,HSL.o.keep hst (fun x hx=> ?_),HG.o⟩;have h1:=HG.o x hx;have h2:=lt_of_block HV.o
    simp;omega
   ·rw [if_neg hle] at he;subst he;go_wp2;go_ret;have hst:=(Keeps.refl [V] w2).setCell (p:=⟨V,0,none⟩) (.inl (by simp)) (M none 0 0);have hf:uT (.node 1 set1 (MRe.trees kids1) mn1 mx1 mode1 n1 neg1) (.node 1 set2 (MRe.trees kids2) mn2 mx2 mode2 n2 neg2)=false:=by rw [HU.o];simp [hle]
    exact ⟨by rw [hf];rfl,(K2.o.mono (by simp)).trans hst,⟨_,_,_,heap_setCell_same w2 V 0 _ _ _ HV2.o⟩,fun h=> by rw [hf] at h;cases h⟩
  ·have a2b:(op2 !=1)=true:=by simpa using a2
   subst a1;have HF:=gi (show uT (.node 1 set1 (MRe.trees kids1) mn1 mx1 mode1 n1 neg1) (.node op2 set2 (MRe.trees kids2) mn2 mx2 mode2 n2 neg2)=false by rw [HU.o];simp [a2]);go_enter Tryz.func123,Tryz.ntmps123
   go_upto_region 1 with fail
   rw [←HYE.o,←HBE.o];go_wp2;go_ret;exact ⟨by rw [HF.o];rfl,KY.o.mono (by simp),⟨_,_,_,KY.o.h HV.o⟩,fun h=> by rw [HF.o] at h;cases h⟩
 ·have a1b:(op1 !=1)=true:=by simpa using a1
  have HF:=gi (show uT (.node op1 set1 (MRe.trees kids1) mn1 mx1 mode1 n1 neg1) (.node op2 set2 (MRe.trees kids2) mn2 mx2 mode2 n2 neg2)=false by rw [HU.o];simp [a1]);go_enter Tryz.func123,Tryz.ntmps123
  go_upto_region 1 with fail
  rw [←HYE.o,←HBE.o];go_wp2;go_ret;exact ⟨by rw [HF.o];rfl,KY.o.mono (by simp),⟨_,_,_,KY.o.h HV.o⟩,fun h=> by rw [HF.o] at h;cases h⟩
theorem trees_getD (l:List MRe) (i:Nat):(MRe.trees l).getD i .nil=(l.getD i MRe.nil).tree:=by
 rw [List.getD_eq_getElem?_getD,List.getD_eq_getElem?_getD,MRe.trees_eq,List.getElem?_map]
 cases l[i]? with
 | none=> rfl
 | some x=> rfl
def unionR (t:Tree):Option Tree:=(pairO uT 3 t).map fun i=> swapT t.op t.kids i (i + 2) [.node 1 (unionP (t.kids.getD i .nil).set (t.kids.getD (i + 1) .nil).set) [] 0 0 0 0 false]
theorem union_any (m:MRe) (w:World) (k1:m.OK w) (f1:m.tree.WF) (hb:m.tree.bulk≤100000):
  Calls Tryz.prog 83 #[m.val] w (RulePost w m.blocks (unionR m.tree)):=by
 have henter:Enters 123:=enters_of Tryz.func123 (by kernel_rfl) rfl;obtain ⟨m0,hm0⟩:∃ m0,m0=m:=⟨_,rfl⟩;have HSW:=gi (fun (W:World) (h:Keeps [] w W) (i:Nat) (la:Option Addr) (l:MRe)=> swap_any m i (i + 2) la 1 [l] W (k1.keep h));have HLT:=gi k1.block_lt;have HP:=gi (fun (V:Nat) (X1:World) (hX:Keeps [] w X1) (hV:w.heap.size≤V) (hv:VarAt X1 V)=> pair_any 123 #[.pointer (some ⟨V,0,none⟩)] uT 3 m X1
  (fun W=> Keeps [V] X1 W∧VarAt W V) (fun i W=> Keeps [V] X1 W∧VarIs W V X1.heap.size (unionP (m.kids.getD i MRe.nil).tree.set (m.kids.getD (i + 1) MRe.nil).tree.set)) henter ⟨Keeps.refl _ _,hv⟩
  (fun W hW=> (k1.keep hX).keepS hW.1 fun b hb=> by have:=k1.block_lt b hb;simp;omega) (fun _ W hW=> (k1.keep hX).keepS hW.1 fun b hb=> by have:=k1.block_lt b hb;simp;omega)
  (fun W hW=> ⟨hW.1.drew,hW.2⟩) (fun W o hW=> ⟨hW.1.alloc o,by obtain ⟨a,n,c,h⟩:=hW.2;exact ⟨a,n,c,(Keeps.a1 W o).h h⟩⟩)
  (fun i hi W hW=> by
   have hok:=(k1.keep hX).keepS hW.1 fun b hb=> (by have:=k1.block_lt b hb;simp;omega:b ∉ [V]);have hm1:m.kids[i]∈m.kids:=List.getElem_mem _;have hm2:m.kids[i + 1]∈m.kids:=List.getElem_mem _;have g1:m.kids.getD i MRe.nil=m.kids[i]:=by simp [List.getD_eq_getElem?_getD,List.getElem?_eq_getElem (show i < m.kids.length by omega)]
   have g2:m.kids.getD (i + 1) MRe.nil=m.kids[i + 1]:=by simp [List.getD_eq_getElem?_getD,List.getElem?_eq_getElem hi]
   have o1:m.kids[i].OK W:=by cases m with | node op sa sc set ka kc kids mn mx mode n neg=> exact hok.kid hm1
   have o2:m.kids[i + 1].OK W:=by cases m with | node op sa sc set ka kc kids mn mx mode n neg=> exact hok.kid hm2
   have w1:m.kids[i].tree.WF:=by cases m with | node op sa sc set ka kc kids mn mx mode n neg=> exact wf_kid f1 hm1
   have w2:m.kids[i + 1].tree.WF:=by cases m with | node op sa sc set ka kc kids mn mx mode n neg=> exact wf_kid f1 hm2
   refine Calls.mono (union1_any m.kids[i] m.kids[i + 1] V W o1 o2 w1 w2 hW.2) ?_;rintro e w' ⟨he,hk,hva,hvi⟩;refine ⟨he,fun _=> ⟨hW.1.trans hk,hva⟩,fun h=> ⟨hW.1.trans hk,?_⟩⟩;obtain ⟨a,c,h1,h2,h3⟩:=hvi h;rw [g1,g2];exact ⟨a,c,h1,h2,fun g hg=> Nat.le_trans hW.1.size (h3 g hg)⟩))
 have hbk:m.kids.length≤100000:=by
  cases m with
  | node op sa sc set ka kc kids mn mx mode n neg=> exact (kids_bulk hb).1
 obtain ⟨op,sa,sc,set,ka,kc,kids,mn,mx,mode,n,neg⟩:=m;obtain ⟨B,X,HBE,HXE,HC,HZ,hsz,HKX⟩:=pre0 w op sa sc set ka kc kids mn mx mode n neg;have HXS:=gi hsz;have HBK:=gi (show kids.length≤100000 from hbk);have HNO:=gi (wf_node f1);have HM0:=gi hm0;have hT:unionR (MRe.tree (.node op sa sc set ka kc kids mn mx mode n neg))=(pairO uT 3 (MRe.tree (.node op sa sc set ka kc kids mn mx mode n neg))).map fun i=> swapT op (MRe.trees kids) i (i + 2) [.node 1 (unionP ((MRe.trees kids).getD i .nil).set ((MRe.trees kids).getD (i + 1) .nil).set) [] 0 0 0 0 false]:=rfl;obtain ⟨po,hpo⟩:∃ po,po=pairO uT 3 (MRe.tree (.node op sa sc set ka kc kids mn mx mode n neg)):=⟨_,rfl⟩;rw [←hpo] at HP hT;rw [hT];have HPO:=gi hpo;clear hT hb k1 f1 hbk hm0 hpo henter hsz;obtain ⟨V,hVe⟩:∃ V,V=X.heap.size:=⟨_,rfl⟩;obtain ⟨X1,hX1⟩:∃ X1,X1=X.alloc (.cells #[M none 0 0] 23):=⟨_,rfl⟩;have hk1:Keeps [] X X1:=by rw [hX1];exact Keeps.a1 _ _
 have hv1:X1.heap[V]? =some (.cells #[M none 0 0] 23 (0,0)):=by rw [hX1,hVe];exact heap_alloc_new X _
 have HV1:=gi (show V < X1.heap.size from lt_of_block hv1);have K1:=gi hk1;have HVE:=gi hVe;have HX1:=gi hX1;have hP:=HP.o V X1 (HKX.o.trans hk1) (by rw [hVe];exact HKX.o.size) ⟨_,_,_,hv1⟩;simp only [MRe.val] at hP ⊢;have HP2:=gi hP;clear hVe hX1 hk1 hv1 hP HP;obtain ⟨c0,c1,c2,c3,c4,c5,c6,c7⟩:=HC.o.cells0;go_enter Tryz.func83,Tryz.ntmps83
 go_upto_region 1 with fail
 rw [←HXE.o,←HBE.o];obtain ⟨d0,d1,d2,d3,d4,d5,d6,d7⟩:=K1.o.c8 c0 c1 c2 c3 c4 c5 c6 c7;go_upto_region 2 with fail
 rw [←HX1.o,←HVE.o];have hmf:∀ (fn:Fn) (first cap:Array Value) (w:World),(Instr.makeFunc fn first cap).run Tryz.prog w=.ok (.func fn first cap) w:=fun _ _ _ _=> rfl;go_wp2_with fail
 refine Calls.mono HP2.o ?_;intro e w2 hor;have HZ1:=gi (K1.o.h HZ.o);clear c0 c1 c2 c3 c4 c5 c6 c7
 cases po with
 | none=>
  obtain ⟨⟨x,rfl⟩,hk2,_⟩:=hor;have K2:=gi (K1.o.after hk2 (by intro x hx;simp at hx;subst hx;exact .inr (by rw [HVE.o];exact Nat.le_refl _)));have HR:=gi (show (none:Option Nat).map (fun i=> swapT op (MRe.trees kids) i (i + 2) [.node 1 (unionP ((MRe.trees kids).getD i .nil).set ((MRe.trees kids).getD (i + 1) .nil).set) [] 0 0 0 0 false])=none from rfl);clear hk2 d0 d1 d2 d3 d4 d5 d6 d7;obtain ⟨z0,z1,z2,z3,z4,z5,z6,z7,zf,HR2,HK2⟩:=nn HBE.o HKX.o K2.o HZ.o;go_wp2;refine rt HR2.o ?_;exact RulePost.of_none HR.o rfl HK2.o
 | some i=>
  obtain ⟨rfl,hk2,a,c,hv2,hsl,hfr⟩:=hor;have K2:=gi (K1.o.after hk2 (by intro x hx;simp at hx;subst hx;exact .inr (by rw [HVE.o];exact Nat.le_refl _)));obtain ⟨hop,hil,_⟩:=pairO_some HPO.o.symm;have hop:op=3:=hop;subst hop;have hil:i + 1 < (MRe.trees kids).length:=hil;rw [MRe.trees_length] at hil;obtain ⟨r,hr⟩:∃ r,r=unionP (kids.getD i MRe.nil).tree.set (kids.getD (i + 1) MRe.nil).tree.set:=⟨_,rfl⟩;have hR:(some i).map (fun i=> swapT 3 (MRe.trees kids) i (i + 2) [.node 1 (unionP ((MRe.trees kids).getD i .nil).set ((MRe.trees kids).getD (i + 1) .nil).set) [] 0 0 0 0 false])=some (swapT 3 (MRe.trees kids) i (i + 2) [.node 1 r [] 0 0 0 0 false]):=by
   simp only [Option.map_some,trees_getD];rw [hr]
  simp only [MRe.kids] at hv2 hsl;rw [←hr] at hv2 hsl;have HR:=gi hR;have v0:=cell_of_row hv2;simp only [sv] at v0;have SP:=gi (SpansIn.of_sl hsl);have HFR:=gi hfr;have hBV:B < V:=by have h1:=HVE.o;have h2:=HXS.o;omega
  have hw1:IntKind.i64.wrap ((i:Int) + 2)=(i:Int) + 2:=IntWalk.i64_in _ (by have:=HBK.o;omega);have c0:=hk2.cell d0 (by simp;omega);have c1:=hk2.cell d1 (by simp;omega);have c2:=hk2.cell d2 (by simp;omega);have c3:=hk2.cell d3 (by simp;omega);have c4:=hk2.cell d4 (by simp;omega);have c5:=hk2.cell d5 (by simp;omega);have c6:=hk2.cell d6 (by simp;omega);have c7:=hk2.cell d7 (by simp;omega);clear hR hv2 hsl hfr hr hk2 d0 d1 d2 d3 d4 d5 d6 d7;have kA:=Keeps.a1 w2 (.cells #[H J 1,M (a.map fun g=> ⟨g,0,none⟩) r.length c,M none 0 0,H J 0,H J 0,H J 0,H J 0,F false] 26);have KA:=gi kA;have KWA:=gi ((HKX.o.trans K2.o).trans kA);have hkin:KidsIn (w2.alloc (.cells #[H J 1,M (a.map fun g=> ⟨g,0,none⟩) r.length c,M none 0 0,H J 0,H J 0,H J 0,H J 0,F false] 26)) (some ⟨w2.heap.size,0,none⟩) 1 [(.node 1 (a.map fun g=> ⟨g,0,none⟩) c r none 0 [] 0 0 0 0 false)]:=by
   refine ⟨NodesIn.of_block (kids:=[(.node 1 (a.map fun g=> ⟨g,0,none⟩) c r none 0 [] 0 0 0 0 false)]) (heap_alloc_new w2 _) rfl (by simp [maxLen]),fun x hx=> ?_⟩;simp only [List.mem_cons,List.not_mem_nil,or_false] at hx;subst hx;exact .of (SP.o.keep kA) (KidsIn.nil _)
  have hs:=HSW.o _ KWA.o i (some ⟨w2.heap.size,0,none⟩) (.node 1 (a.map fun g=> ⟨g,0,none⟩) c r none 0 [] 0 0 0 0 false) hkin (by omega) (by show i + 2≤kids.length;omega) (by show 0 < kids.length;omega) (by show kids.length + 1≤1000000;have:=HBK.o;omega);rw [show ((i + 2:Nat):Int)=(i:Int) + 2 by omega,List.length_singleton] at hs;have HS:=gi hs;clear hs hkin kA;go_wp2_with fail
  refine Calls.mono HS.o ?_;rintro e w8 ⟨q,rfl,hqt,hqo,hk8,hqf⟩;have K8:=gi (K2.o.trans (KA.o.trans hk8));have QT:=gi hqt;have QO:=gi hqo;have QF:=gi hqf;obtain ⟨q0,hq0⟩:∃ q0,q0=q:=⟨_,rfl⟩;rw [←hq0] at QT QO QF;have Q0:=gi hq0;clear hqt hqo hk8 hqf hq0 c0 c1 c2 c3 c4 c5 c6 c7 v0;obtain ⟨op9,sa9,sc9,set9,ka9,kc9,kids9,mn9,mx9,mode9,n9,neg9⟩:=q;simp only [MRe.val];obtain ⟨z0,z1,z2,z3,z4,z5,z6,z7,zf⟩:=zero_cells (K8.o.h HZ.o);go_wp2;have hfr:From (B + 2) (MRe.node 3 sa sc set ka kc kids mn mx mode n neg).blocks (.node op9 sa9 sc9 set9 ka9 kc9 kids9 mn9 mx9 mode9 n9 neg9:MRe).blocks:=by
   rw [←Q0.o];intro x hx;have h1:=HXS.o;have h2:=HV1.o;have h3:=HVE.o
   rcases QF.o x hx with h | h
   ·rcases List.mem_append.1 h with h | h
    ·exact .inl h
    ·refine .inr ?_;simp only [MRe.blocksL,MRe.blocks,List.append_nil,List.mem_append] at h
     rcases h with h | h
     ·have:=Fresh.blockIf_map (n:=r.length) (fun g hg=> HFR.o g hg) x h
      omega
     ·simp [blockIf] at h
   ·exact .inr (by have:=(K2.o.trans KA.o).size;omega)
  obtain ⟨hR,hok,hke,hfr2⟩:=rule_store HBE.o HKX.o K8.o HZ.o (by rw [←Q0.o];exact QO.o) hfr HLT.o;refine rt hR ?_;exact RulePost.of_some (.node op9 sa9 sc9 set9 ka9 kc9 kids9 mn9 mx9 mode9 n9 neg9) (by rw [HR.o,←Q0.o,QT.o];rfl) rfl hok hke hfr2
def onceR:Tree→Option Tree
 | .node op _ kids mn mx mode _ _=> if op=4∧mn=1∧mx=1∧mode≠2 then some (kids.getD 0 .nil) else none
theorem once_any (m:MRe) (w:World) (k1:m.OK w) (f1:m.tree.WF):
  Calls Tryz.prog 84 #[m.val] w (RulePost w m.blocks (onceR m.tree)):=by
 obtain ⟨R,hR0⟩:∃ R,R=onceR m.tree:=⟨_,rfl⟩;rw [←hR0];obtain ⟨op,sa,sc,set,ka,kc,kids,mn,mx,mode,n,neg⟩:=m;have hno:=wf_node f1;obtain ⟨B,X,HBE,HXE,HC,HZ,hsz,HKX⟩:=pre0 w op sa sc set ka kc kids mn mx mode n neg;have HXS:=gi hsz;have HLT:=gi k1.block_lt;have HK0:=gi (Keeps.refl [] X);have HR0:=gi (show R=if op=4∧mn=1∧mx=1∧mode≠2 then some ((MRe.trees kids).getD 0 .nil) else none from hR0);simp only [MRe.val];clear hR0 hsz
 by_cases a1:op=4
 ·by_cases a2:mn=1
  ·by_cases a3:mx=1
   ·by_cases a4:mode=2
    ·have HR:=gi (show R=none from HR0.o.trans (if_neg (fun h=> h.2.2.2 a4)));subst a1 a2 a3 a4;clear k1 f1 hno HR0;obtain ⟨c0,c1,c2,c3,c4,c5,c6,c7⟩:=HC.o.cells0;go_enter Tryz.func84,Tryz.ntmps84
     go_upto_region 1 with fail
     rw [←HXE.o,←HBE.o];obtain ⟨z0,z1,z2,z3,z4,z5,z6,z7,zf,HR2,HK2⟩:=nn HBE.o HKX.o HK0.o HZ.o;go_wp2;refine rt HR2.o ?_;exact RulePost.of_none HR.o rfl HK2.o
    ·have hlen0:kids.length=1:=hno.hone (.inl a1);have hln0:0 < kids.length:=by omega
     have hln:(0:Int) < (kids.length:Int):=by omega
     obtain ⟨b1,o1,k0,rfl,hk0m,hk00,hk0a,hk0o⟩:=k1.kids.head hln0;obtain ⟨r,hr⟩:=trees_head hk00;have HR:=gi (show R=some k0.tree by rw [HR0.o,if_pos ⟨a1,a2,a3,a4⟩,hr];rfl);have HFR:=gi (show From (B + 2) (MRe.node op sa sc set (some ⟨b1,o1,none⟩) kc kids mn mx mode n neg).blocks k0.blocks from From.of_mem (blocks_kid hk0m));have a4b:(mode==2)=false:=by simpa using a4
     subst a1 a2 a3;obtain ⟨op1,sa1,sc1,set1,ka1,kc1,kids1,mn1,mx1,mode1,n1,neg1⟩:=k0;have HOK:=gi hk0o;have g:=hk0a.node;obtain ⟨e0,e1,e2,e3,e4,e5,e6,e7⟩:=id g;obtain ⟨d0,d1,d2,d3,d4,d5,d6,d7⟩:=HKX.o.c8 e0 e1 e2 e3 e4 e5 e6 e7;obtain ⟨z0,z1,z2,z3,z4,z5,z6,z7,zf⟩:=zero_cells HZ.o;obtain ⟨hR,hok,hke,hfr2⟩:=rule_store HBE.o HKX.o HK0.o HZ.o (HOK.o.keep HKX.o) HFR.o HLT.o;have H1:=gi hR;have H2:=gi hok;have H3:=gi hke;have H4:=gi hfr2;clear g e0 e1 e2 e3 e4 e5 e6 e7 hk0m hk00 hk0a hk0o hr hlen0 k1 f1 hno hR hok hke hfr2 HR0;obtain ⟨c0,c1,c2,c3,c4,c5,c6,c7⟩:=HC.o.cells0;go_enter Tryz.func84,Tryz.ntmps84
     go_upto_region 1 with fail
     rw [←HXE.o,←HBE.o];go_wp2;refine rt H1.o ?_;exact RulePost.of_some (.node op1 sa1 sc1 set1 ka1 kc1 kids1 mn1 mx1 mode1 n1 neg1) HR.o rfl H2.o H3.o H4.o
   ·have HR:=gi (show R=none from HR0.o.trans (if_neg (fun h=> a3 h.2.2.1)));have hb:(mx !=1)=true:=by simpa using a3
    subst a1 a2;clear k1 f1 hno HR0;obtain ⟨c0,c1,c2,c3,c4,c5,c6,c7⟩:=HC.o.cells0;go_enter Tryz.func84,Tryz.ntmps84
    go_upto_region 1 with fail
    rw [←HXE.o,←HBE.o];obtain ⟨z0,z1,z2,z3,z4,z5,z6,z7,zf,HR2,HK2⟩:=nn HBE.o HKX.o HK0.o HZ.o;go_wp2;refine rt HR2.o ?_;exact RulePost.of_none HR.o rfl HK2.o
  ·have HR:=gi (show R=none from HR0.o.trans (if_neg (fun h=> a2 h.2.1)));have hb:(mn !=1)=true:=by simpa using a2
   subst a1;clear k1 f1 hno HR0;obtain ⟨c0,c1,c2,c3,c4,c5,c6,c7⟩:=HC.o.cells0;go_enter Tryz.func84,Tryz.ntmps84
   go_upto_region 1 with fail
   rw [←HXE.o,←HBE.o];obtain ⟨z0,z1,z2,z3,z4,z5,z6,z7,zf,HR2,HK2⟩:=nn HBE.o HKX.o HK0.o HZ.o;go_wp2;refine rt HR2.o ?_;exact RulePost.of_none HR.o rfl HK2.o
 ·have HR:=gi (show R=none from HR0.o.trans (if_neg (fun h=> a1 h.1)));have hb:(op !=4)=true:=by simpa using a1
  clear k1 f1 hno HR0;obtain ⟨c0,c1,c2,c3,c4,c5,c6,c7⟩:=HC.o.cells0;go_enter Tryz.func84,Tryz.ntmps84
  go_upto_region 1 with fail
  rw [←HXE.o,←HBE.o];obtain ⟨z0,z1,z2,z3,z4,z5,z6,z7,zf,HR2,HK2⟩:=nn HBE.o HKX.o HK0.o HZ.o;go_wp2;refine rt HR2.o ?_;exact RulePost.of_none HR.o rfl HK2.o
end Go.Proofs.YtjnlkjlbejelgaaGreat
