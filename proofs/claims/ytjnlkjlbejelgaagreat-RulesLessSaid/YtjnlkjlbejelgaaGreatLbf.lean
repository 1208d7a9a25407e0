/- Part 32 of the proof. No condition: every lemma says its own. -/
import Derived.Test.YtjnlkjlbejelgaaGreatLan
import Derived.Test.YtjnlkjlbejelgaaGreatLaq
namespace Go.Proofs.YtjnlkjlbejelgaaGreat
open Go.RowKit
open Go.Value renaming int→H,slice→M,bool→F
open Go.IntKind renaming i64→J
set_option maxRecDepth 100000
set_option maxHeartbeats 16000000
def letT (lo hi:Int):Tree:=.node 1 [(lo,hi)] [] 0 0 0 0 false
def starT (t:Tree):Tree:=.node 4 [] [t] 0 (-1) 0 0 false
def catT (a b:Tree):Tree:=.node 2 [] [a,b] 0 0 0 0 false
def TreePost (w:World) (t:Tree) (e:Ending) (w':World):Prop:=∃ m:MRe,e=.returned m.val∧m.tree=t∧m.OK w'∧Keeps [] w w'
theorem letter_any (lo hi:Int) (w:World):Calls Tryz.prog 39 #[H J lo,H J hi] w (TreePost w (letT lo hi)):=by
 go_enter Tryz.func39,Tryz.ntmps39
 go_wp2;refine bodyPost_ret (results_cell_row rfl _ _ w.heap.size 26 #[H J 1,M (some ⟨w.heap.size + 1,0,none⟩) 1 1,M none 0 0,H J 0,H J 0,H J 0,H J 0,F false] (0,0) _ rfl ((Keeps.a1 _ _).heap (heap_alloc_new w _) (by simp)) Tryz.underlying26 rfl sizeRe) rfl ?_;refine ⟨.node 1 (some ⟨w.heap.size + 1,0,none⟩) 1 [(lo,hi)] none 0 [] 0 0 0 0 false,rfl,rfl,.of (SpansIn.of_block (set:=[(lo,hi)]) (heap_alloc2_new w _ _) rfl (by simp [maxLen])) (KidsIn.nil _),Keeps.a2 _ _ _⟩
theorem lstar_any (m:MRe) (w:World) (k1:m.OK w):Calls Tryz.prog 41 #[m.val] w (TreePost w (starT m.tree)):=by
 obtain ⟨m0,hm0⟩:∃ m0,m0=m:=⟨_,rfl⟩;rw [←hm0] at k1 ⊢;have HM:=gi hm0;obtain ⟨op,sa,sc,set,ka,kc,kids,mn,mx,mode,n,neg⟩:=m;have hv:m0.val=.agg #[H J op,M sa set.length sc,M ka kids.length kc,H J mn,H J mx,H J mode,H J n,F neg]:=by rw [hm0];rfl
 rw [hv];have HK:=gi k1;clear hm0 hv k1;go_enter Tryz.func41,Tryz.ntmps41
 go_wp2;refine bodyPost_ret (results_cell_row rfl _ _ (w.heap.size + 1) 26 #[H J 4,M none 0 0,M (some ⟨w.heap.size + 2,0,none⟩) 1 1,H J 0,H J (-1),H J 0,H J 0,F false] (0,0) _ rfl ((Keeps.a1 _ _).heap (heap_alloc2_new w _ _) (by simp)) Tryz.underlying26 rfl sizeRe) rfl ?_;refine ⟨.node 4 none 0 [] (some ⟨w.heap.size + 2,0,none⟩) 1 [m0] 0 (-1) 0 0 false,rfl,rfl,.of (SpansIn.nil _) ⟨NodesIn.of_block (kids:=[m0]) (T:=26) (fz:=(0,0)) (cs:=#[H J op,M sa set.length sc,M ka kids.length kc,H J mn,H J mx,H J mode,H J n,F neg]) ?_ (by rw [HM.o];rfl) (by simp [maxLen]),fun x hx=> ?_⟩,Keeps.a3 _ _ _ _⟩
 ·have h:=heap_alloc_new ((w.alloc (.cells #[H J op,M sa set.length sc,M ka kids.length kc,H J mn,H J mx,H J mode,H J n,F neg] 26)).alloc (.cells #[H J 4,M none 0 0,M (some ⟨w.heap.size + 2,0,none⟩) 1 1,H J 0,H J (-1),H J 0,H J 0,F false] 26)) (.cells #[H J op,M sa set.length sc,M ka kids.length kc,H J mn,H J mx,H J mode,H J n,F neg] 26);rw [show ((w.alloc (.cells #[H J op,M sa set.length sc,M ka kids.length kc,H J mn,H J mx,H J mode,H J n,F neg] 26)).alloc (.cells #[H J 4,M none 0 0,M (some ⟨w.heap.size + 2,0,none⟩) 1 1,H J 0,H J (-1),H J 0,H J 0,F false] 26)).heap.size=w.heap.size + 2 by simp] at h;exact h
 ·simp only [List.mem_cons,List.not_mem_nil,or_false] at hx;subst hx;exact HK.o.keep (Keeps.a3 _ _ _ _)
theorem lcat_any (m1 m2:MRe) (w:World) (k1:m1.OK w) (k2:m2.OK w):Calls Tryz.prog 40 #[m1.val,m2.val] w (TreePost w (catT m1.tree m2.tree)):=by
 obtain ⟨n1',hn1⟩:∃ n1',n1'=m1:=⟨_,rfl⟩;obtain ⟨n2',hn2⟩:∃ n2',n2'=m2:=⟨_,rfl⟩;rw [←hn1] at k1 ⊢;rw [←hn2] at k2 ⊢;have H1:=gi hn1;have H2:=gi hn2;obtain ⟨op5,sa5,sc5,set5,ka5,kc5,kids5,mn5,mx5,mode5,n5,neg5⟩:=m1;obtain ⟨op6,sa6,sc6,set6,ka6,kc6,kids6,mn6,mx6,mode6,n6,neg6⟩:=m2;have hv1:n1'.val=.agg #[H J op5,M sa5 set5.length sc5,M ka5 kids5.length kc5,H J mn5,H J mx5,H J mode5,H J n5,F neg5]:=by rw [hn1];rfl
 have hv2:n2'.val=.agg #[H J op6,M sa6 set6.length sc6,M ka6 kids6.length kc6,H J mn6,H J mx6,H J mode6,H J n6,F neg6]:=by rw [hn2];rfl
 rw [hv1,hv2];have HK1:=gi k1;have HK2:=gi k2;clear hn1 hn2 hv1 hv2 k1 k2;go_enter Tryz.func40,Tryz.ntmps40
 go_wp2;refine bodyPost_ret (results_cell_row rfl _ _ (w.heap.size + 2) 26 #[H J 2,M none 0 0,M (some ⟨w.heap.size + 3,0,none⟩) 2 2,H J 0,H J 0,H J 0,H J 0,F false] (0,0) _ rfl ((Keeps.a1 _ _).heap ?_ (by simp)) Tryz.underlying26 rfl sizeRe) rfl ?_
 ·have h:=heap_alloc_new ((w.alloc (.cells #[H J op5,M sa5 set5.length sc5,M ka5 kids5.length kc5,H J mn5,H J mx5,H J mode5,H J n5,F neg5] 26)).alloc (.cells #[H J op6,M sa6 set6.length sc6,M ka6 kids6.length kc6,H J mn6,H J mx6,H J mode6,H J n6,F neg6] 26)) (.cells #[H J 2,M none 0 0,M (some ⟨w.heap.size + 3,0,none⟩) 2 2,H J 0,H J 0,H J 0,H J 0,F false] 26);rw [show ((w.alloc (.cells #[H J op5,M sa5 set5.length sc5,M ka5 kids5.length kc5,H J mn5,H J mx5,H J mode5,H J n5,F neg5] 26)).alloc (.cells #[H J op6,M sa6 set6.length sc6,M ka6 kids6.length kc6,H J mn6,H J mx6,H J mode6,H J n6,F neg6] 26)).heap.size=w.heap.size + 2 by simp] at h;exact h
 refine ⟨.node 2 none 0 [] (some ⟨w.heap.size + 3,0,none⟩) 2 [n1',n2'] 0 0 0 0 false,rfl,rfl,.of (SpansIn.nil _) ⟨NodesIn.of_block (kids:=[n1',n2']) (T:=26) (fz:=(0,0)) (cs:=#[H J op5,M sa5 set5.length sc5,M ka5 kids5.length kc5,H J mn5,H J mx5,H J mode5,H J n5,F neg5,H J op6,M sa6 set6.length sc6,M ka6 kids6.length kc6,H J mn6,H J mx6,H J mode6,H J n6,F neg6]) ?_ (by rw [H1.o,H2.o];rfl) (by simp [maxLen]),fun x hx=> ?_⟩,Keeps.a4 _ _ _ _ _⟩
 ·have h:=heap_alloc_new (((w.alloc (.cells #[H J op5,M sa5 set5.length sc5,M ka5 kids5.length kc5,H J mn5,H J mx5,H J mode5,H J n5,F neg5] 26)).alloc (.cells #[H J op6,M sa6 set6.length sc6,M ka6 kids6.length kc6,H J mn6,H J mx6,H J mode6,H J n6,F neg6] 26)).alloc (.cells #[H J 2,M none 0 0,M (some ⟨w.heap.size + 3,0,none⟩) 2 2,H J 0,H J 0,H J 0,H J 0,F false] 26)) (.cells #[H J op5,M sa5 set5.length sc5,M ka5 kids5.length kc5,H J mn5,H J mx5,H J mode5,H J n5,F neg5,H J op6,M sa6 set6.length sc6,M ka6 kids6.length kc6,H J mn6,H J mx6,H J mode6,H J n6,F neg6] 26);rw [show (((w.alloc (.cells #[H J op5,M sa5 set5.length sc5,M ka5 kids5.length kc5,H J mn5,H J mx5,H J mode5,H J n5,F neg5] 26)).alloc (.cells #[H J op6,M sa6 set6.length sc6,M ka6 kids6.length kc6,H J mn6,H J mx6,H J mode6,H J n6,F neg6] 26)).alloc (.cells #[H J 2,M none 0 0,M (some ⟨w.heap.size + 3,0,none⟩) 2 2,H J 0,H J 0,H J 0,H J 0,F false] 26)).heap.size=w.heap.size + 3 by simp] at h;exact h
 ·simp only [List.mem_cons,List.not_mem_nil,or_false] at hx
  rcases hx with rfl | rfl
  ·exact HK1.o.keep (Keeps.a4 _ _ _ _ _)
  ·exact HK2.o.keep (Keeps.a4 _ _ _ _ _)
theorem infoS:(Tryz.prog.info? 9).map (fun i=> (i.zero,i.size,i.bytes))=some (some (.string ⟨#[]⟩),1,16):=by kernel_rfl
theorem names_any (w:World):Calls Tryz.prog 15 #[] w fun e w'=> ∃ g c,e=.returned (M (some ⟨g,0,none⟩) 17 c)∧Keeps [] w w':=by
 obtain ⟨i0,hi0,hz0,hz1,hz2⟩:=info_parts infoS;have Hi:=gi hi0;have Hz0:=gi hz0;have Hz1:=gi hz1;have Hz2:=gi hz2;clear hi0 hz0 hz1 hz2;go_enter Tryz.func15,Tryz.ntmps15
 go_wp2_with fail
 refine Calls.mono (table_any w) ?_;rintro e w2 ⟨g,rfl,htab,hk,hg⟩;have HT:=gi htab;have HK:=gi hk;clear htab hk hg;go_wp2
 go_loopw [1,6] (fun v i wr=> ∃ (k:Nat) (a:Option Nat) (c:Nat) (xs:List Value),k≤17∧i=H J k∧v=sv a k c∧SliceAt wr 9 1 a k c xs∧Keeps [] w wr∧Keeps [] w2 wr∧(∀ g,a=some g→w2.heap.size≤g)) (fun _ i _=> 17 - (intOf i).toNat)
 case atStart=> exact ⟨0,none,0,[],by omega,rfl,rfl,SliceAt.nil _ _ _,HK.o,Keeps.refl _ _,by simp⟩
 case round=>
  obtain ⟨k,a,c,xs,hk,rfl,rfl,hsl,hkw,hk2,hga⟩:=hrel;have HSL:=gi hsl;have HKW:=gi hkw;have HK2:=gi hk2;have HGA:=gi hga;clear hsl hkw hga
  by_cases hlt:k < 17
  ·have hlti:(k:Int) < 17:=by omega
   obtain ⟨b,hb⟩:∃ b,tableCells[k * 2]? =some (.string b):=by
    obtain rfl | rfl | rfl | rfl | rfl | rfl | rfl | rfl | rfl | rfl | rfl | rfl | rfl | rfl | rfl | rfl | rfl:k=0∨k=1∨k=2∨k=3∨k=4∨k=5∨k=6∨k=7∨k=8∨k=9∨k=10∨k=11∨k=12∨k=13∨k=14∨k=15∨k=16:=by omega
    all_goals exact ⟨_,rfl⟩
   have x0:wr.cell? ⟨g,k * 2,none⟩=some (.string b):=hk2.cell (by simp only [World.cell?,HT.o];exact hb) (by simp);have x1:wr.cell? ⟨g,k * 2 + 1,none⟩=some (.func (Fn.func (ruleFn k)) #[] #[]):=hk2.cell (table_cell HT.o k hlt) (by simp);obtain ⟨F',hF⟩:∃ F',F'=ruleFn k:=⟨_,rfl⟩;rw [←hF] at x1;clear hk2 hb hF
   go_wp2_with (at_builtin;refine wpList_append_sl rfl (.tmp 10) (.tmp 13) 39 rfl 9 i0 _ 1 16 Tryz.underlying39 Hi.o Hz0.o Hz1.o Hz2.o rfl (by decide) a k c xs rfl ((HSL.o.alloc _).alloc _) ⟨wr.heap.size + 1,0,none⟩ 1 1 [.string b] rfl rfl ?hnews ?hone (by decide) (by omega) (by omega) ?hk)
   case hnews=> exact news_row' _ _ _ _ (by simp)
   case hone=> intro u hu;simp at hu;subst hu;rfl
   case hk=>
    intro g' c2 w3 hsl3 hk3 hg3;have hga:∀ x∈a.toList,w2.heap.size≤x:=fun x hx=> HGA.o x (by simpa using hx);have hw2:=HK.o.size;have K3:=gi ((HKW.o.trans (Keeps.a2 _ _ _)).after hk3 (fun x hx=> .inr (by have:=hga x hx;omega)));have K4:=gi ((HK2.o.trans (Keeps.a2 _ _ _)).after hk3 (fun x hx=> .inr (hga x hx)));have S3:=gi hsl3;have G3:=gi (show w2.heap.size≤g' by
     rcases hg3 with h | h
     ·exact HGA.o g' h
     ·have h:wr.heap.size + 1 + 1≤g':=h
      have:=HK2.o.size
      omega)
    clear hsl3 hk3 hg3 hga hw2 x0 x1;go_wp2;go_roundw
    case rel=> exact ⟨k + 1,some g',c2,_,by omega,by go_num,rfl,S3.o,K3.o,K4.o,fun x hx=> by cases hx;exact G3.o⟩
    case measure=> simp [intOf];omega
  ·obtain rfl:k=17:=by omega
   cases a with
   | none=> have:=HSL.o.2.1;omega
   | some g'=>
    simp only [sv,Option.map_some];clear hlt hk hk2;go_wp2;go_ret;exact ⟨g',c,rfl,HKW.o⟩
def lA:Tree:=letT 97 97
def lB:Tree:=letT 98 98
def lC:Tree:=letT 99 99
def ex4:Tree:=mkT 3 [catT lA lB,catT lA lC]
def ex6:Tree:=mkT 3 [lB,lC]
def ex8:Tree:=starT (starT lA)
def ex12:Tree:=catT (starT lA) lB
def ex13:Tree:=mkT 7 [catT lA (starT lB)]
def heldX:Tree:=mkT 2 [.node 4 [] [lA] 0 (-1) 2 0 false,lB]
theorem eqB_self (t:Tree):eqB t t=true:=(eqB_iff t t).2 rfl
theorem ex4_head:headR ex4=some (mkT 2 [lA,mkT 3 [lB,lC]]):=by
 have h:headP (catT lA lB) (catT lA lC)=true:=by simp [headP,catT,Tree.op,Tree.kids,singleHd,singleT,lA,letT,hdEq,eqB_self]
 simp [headR,ex4,pairO,mkT,Tree.op,Tree.kids,nbO,h];simp [swapT,naryT,catT]
theorem ex6_ends:endsP [(98,98)] [(99,99)]=[98,99,100]:=by
 have h:endsF ([(98,98)] ++ [(99,99)])=[98,99,99,100]:=rfl;rw [endsP,h,List.mergeSort_of_pairwise (by decide)]
 decide
theorem ex6_set:unionP [(98,98)] [(99,99)]=[(98,99)]:=by
 rw [unionP,combP,ex6_ends]
 decide
theorem ex6_union:unionR ex6=some (letT 98 99):=by
 have h:uT lB lC=true:=by simp [uT,lB,lC,letT,Tree.op,Tree.set,ex6_set]
 simp [unionR,ex6,pairO,mkT,Tree.op,Tree.kids,nbO,h];simp [swapT,naryT,lB,lC,letT,Tree.set,ex6_set]
theorem ex8_nest:nestR ex8=some (starT lA):=by
 simp [nestR,ex8,starT,gsB,starB,greedyB,Tree.op,Tree.mn,Tree.mx,Tree.mode,Tree.kids,lA,letT,nullP]
theorem ex12_hold:holdR ex12=some heldX:=by
 have h:holdO [starT lA,lB]=some 0:=by
  simp [holdO,holdK,starT,Tree.op,Tree.mode,Tree.mn,Tree.mx,Tree.kids,lA,lB,letT,nullAll,nullP,beginsCat,beginsT,overlapP,Tree.set]
 have e:holdR ex12=(holdO [starT lA,lB]).map fun i=> swapT 2 [starT lA,lB] i (i + 1) [heldT ([starT lA,lB].getD i .nil)]:=by rw [ex12,catT,holdR,if_pos rfl]
 rw [e,h]
 rfl
theorem ex13_peel:peelR ex13=some (mkT 7 [lA]):=by
 have h1:plainP (starT lB)=true:=by simp [plainP,starT,lB,letT,usesT,usesL,usesOfT,hdNull,nullP]
 have h2:nullP (starT lB)=true:=by simp [starT,nullP]
 simp [ex13,mkT,catT,peelR,Tree.op,Tree.kids,h1,h2,naryT]
theorem wf_let (lo hi:Int) (h:0≤lo∧lo≤hi∧hi≤1114111):(letT lo hi).WF:=by
 refine .mk ⟨by omega,by simp,by simp,by simp,by simp,by simp,by simp,fun _=> ⟨h,by simp⟩,by simp,by simp,by simp,by simp,by simp⟩ (by simp)
theorem wf_cat (a b:Tree) (ha:a.WF) (hb:b.WF):(catT a b).WF:=by
 refine .mk ⟨by omega,by simp,by simp,by simp,by simp,by simp,by simp,by simp,by simp,by simp,by simp,by simp,by simp⟩ (by intro k hk;simp at hk;rcases hk with rfl | rfl <;> assumption)
theorem wf_alt (a b:Tree) (ha:a.WF) (hb:b.WF):(mkT 3 [a,b]).WF:=by
 refine .mk ⟨by omega,by simp,by simp,by simp,by simp,by simp,by simp,by simp,by simp,by simp,by simp,by simp,by simp⟩ (by intro k hk;simp at hk;rcases hk with rfl | rfl <;> assumption)
theorem wf_star (a:Tree) (ha:a.WF):(starT a).WF:=by
 refine .mk ⟨by omega,by simp,by simp,by simp,by simp,by simp,by simp,by simp,by simp,by simp,by simp,by simp,by simp⟩ (by intro k hk;simp at hk;subst hk;exact ha)
theorem wf_ahead (a:Tree) (ha:a.WF):(mkT 7 [a]).WF:=by
 refine .mk ⟨by omega,by simp,by simp,by simp,by simp,by simp,by simp,by simp,by simp,by simp,by simp,by simp,by simp⟩ (by intro k hk;simp at hk;subst hk;exact ha)
theorem wfA:lA.WF:=wf_let _ _ (by omega)
theorem wfB:lB.WF:=wf_let _ _ (by omega)
theorem wfC:lC.WF:=wf_let _ _ (by omega)
theorem wf4:ex4.WF:=wf_alt _ _ (wf_cat _ _ wfA wfB) (wf_cat _ _ wfA wfC)
theorem wf6:ex6.WF:=wf_alt _ _ wfB wfC
theorem wf8:ex8.WF:=wf_star _ (wf_star _ wfA)
theorem wf12:ex12.WF:=wf_cat _ _ (wf_star _ wfA) wfB
theorem wf13:ex13.WF:=wf_ahead _ (wf_cat _ _ wfA (wf_star _ wfB))
def AP (w:World) (T:Tree) (e:Ending) (w':World):Prop:=∃ r:MRe,e=.returned (.tuple #[r.val,F true])∧r.tree=T∧r.OK w'∧Keeps [] w w'∧Fresh w.heap.size r.blocks
theorem AP.of {w:World} {T:Tree} {e:Ending} {w':World} (h:ApplyPost w (some T) e w'):AP w T e w':=by
 exact h
theorem ap4 (m:MRe) (w:World) (k1:m.OK w) (ht:m.tree=ex4):Calls Tryz.prog 11 #[H J 4,m.val] w (AP w (mkT 2 [lA,mkT 3 [lB,lC]])):=
 Calls.mono (apply_rule 4 (some (mkT 2 [lA,mkT 3 [lB,lC]])) m w (by omega) k1 (enters_of Tryz.func81 (by kernel_rfl) rfl) (fun t h=> by cases h;decide)
  (fun W h=> by
   have:=head_any m W (k1.keep h) (by rw [ht];exact wf4) (by rw [ht];decide)
   rw [ht,ex4_head] at this;exact this)) fun _ _ h=> AP.of h
theorem ap6 (m:MRe) (w:World) (k1:m.OK w) (ht:m.tree=ex6):Calls Tryz.prog 11 #[H J 6,m.val] w (AP w (letT 98 99)):=
 Calls.mono (apply_rule 6 (some (letT 98 99)) m w (by omega) k1 (enters_of Tryz.func83 (by kernel_rfl) rfl) (fun t h=> by cases h;decide)
  (fun W h=> by
   have:=union_any m W (k1.keep h) (by rw [ht];exact wf6) (by rw [ht];decide)
   rw [ht,ex6_union] at this;exact this)) fun _ _ h=> AP.of h
theorem ap8 (m:MRe) (w:World) (k1:m.OK w) (ht:m.tree=ex8):Calls Tryz.prog 11 #[H J 8,m.val] w (AP w (starT lA)):=
 Calls.mono (apply_rule 8 (some (starT lA)) m w (by omega) k1 (enters_of Tryz.func85 (by kernel_rfl) rfl) (fun t h=> by cases h;decide)
  (fun W h=> by
   have:=nest_any m W (k1.keep h) (by rw [ht];exact wf8)
   rw [ht,ex8_nest] at this;exact this)) fun _ _ h=> AP.of h
theorem ap12 (m:MRe) (w:World) (k1:m.OK w) (ht:m.tree=ex12):Calls Tryz.prog 11 #[H J 12,m.val] w (AP w heldX):=
 Calls.mono (apply_rule 12 (some heldX) m w (by omega) k1 (enters_of Tryz.func89 (by kernel_rfl) rfl) (fun t h=> by cases h;decide)
  (fun W h=> by
   have:=hold_any m W (k1.keep h) (by rw [ht];exact wf12) (by rw [ht];decide)
   rw [ht,ex12_hold] at this;exact this)) fun _ _ h=> AP.of h
theorem ap13 (m:MRe) (w:World) (k1:m.OK w) (ht:m.tree=ex13):Calls Tryz.prog 11 #[H J 13,m.val] w (AP w (mkT 7 [lA])):=
 Calls.mono (apply_rule 13 (some (mkT 7 [lA])) m w (by omega) k1 (enters_of Tryz.func90 (by kernel_rfl) rfl) (fun t h=> by cases h;decide)
  (fun W h=> by
   have:=peel_any m W (k1.keep h) (by rw [ht];exact wf13)
   rw [ht,ex13_peel] at this;exact this)) fun _ _ h=> AP.of h
theorem same0 (m1 m2:MRe) (T:Tree) (w:World) (h1:m1.OK w) (h2:m2.OK w) (t1:m1.tree=T) (t2:m2.tree=T) (hb:T.bulk≤100000):Calls Tryz.prog 13 #[m1.val,m2.val] w fun e w'=> e=.returned (H J 0)∧Keeps [] w w':=by
 have h:=rcompare_any m1 m2 w h1 h2 (by rw [t1];exact hb) (by rw [t2];exact hb);rw [t1,t2,cmpT_self] at h;exact h
theorem mk2_ok {W V:World} {g T:Nat} {fz:Nat × Nat} {op:Int} {s u:MRe} {cs:Array Value} (hs:s.OK W) (hu:u.OK W) (hk:Keeps [] W V) (h:V.heap[g]? =some (.cells cs T fz)) (hc:cs.toList=flatK [s,u]):
  MRe.OK V (.node op none 0 [] (some ⟨g,0,none⟩) 2 [s,u] 0 0 0 0 false):=
 .of (SpansIn.nil _) ⟨NodesIn.of_block (kids:=[s,u]) h hc (by simp [maxLen]),fun x hx=> by
  simp only [List.mem_cons,List.not_mem_nil,or_false] at hx
  rcases hx with rfl | rfl
  ·exact hs.keep hk
  ·exact hu.keep hk⟩
theorem mk1_ok {W V:World} {g T:Nat} {fz:Nat × Nat} {op mn mx mode:Int} {s:MRe} {cs:Array Value} (hs:s.OK W) (hk:Keeps [] W V) (h:V.heap[g]? =some (.cells cs T fz)) (hc:cs.toList=s.row):
  MRe.OK V (.node op none 0 [] (some ⟨g,0,none⟩) 1 [s] mn mx mode 0 false):=
 .of (SpansIn.nil _) ⟨NodesIn.of_block (kids:=[s]) h (by rw [hc];simp [flatK]) (by simp [maxLen]),fun x hx=> by
  simp only [List.mem_cons,List.not_mem_nil,or_false] at hx;subst hx;exact hs.keep hk⟩
def BoxIs (V:World) (g:Nat) (T:Tree):Prop:=∃ x:MRe,At8 V g 0 x∧x.tree=T∧x.OK V
theorem BoxIs.keep {V V':World} {g:Nat} {T:Tree} (h:BoxIs V g T) (k:Keeps [] V V'):BoxIs V' g T:=by
 obtain ⟨x,h1,h2,h3⟩:=h;exact ⟨x,h1.keep k,h2,h3.keep k⟩
theorem box_late {W:World} {x:MRe} {T:Tree} {t:Nat} {cs:Array Value} (hx:x.OK W) (ht:x.tree=T) (hc:cs=x.row.toArray):BoxIs (W.alloc (.cells cs t)) W.heap.size T:=
 ⟨x,At8.of_block (heap_alloc_new W _) hc,ht,hx.keep (Keeps.a1 _ _)⟩
theorem box_early {W:World} {g T0:Nat} {T:Tree} {op sa sc set ka kc kids mn mx mode n neg} (hx:MRe.OK W (.node op sa sc set ka kc kids mn mx mode n neg)) (ht:MRe.tree (.node op sa sc set ka kc kids mn mx mode n neg)=T) (hz:W.heap[g]? =some (.cells #[H J 0,M none 0 0,M none 0 0,H J 0,H J 0,H J 0,H J 0,F false] T0 (0,0))) (hg:g ∉ (MRe.node op sa sc set ka kc kids mn mx mode n neg).blocks):
  BoxIs (set8 W g (H J op) (M sa set.length sc) (M ka kids.length kc) (H J mn) (H J mx) (H J mode) (H J n) (F neg)) g T:=
 ⟨.node op sa sc set ka kc kids mn mx mode n neg,At8.of_block (set8_heap hz _ _ _ _ _ _ _ _) rfl,ht,hx.keepS (set8_keeps _ _ _ _ _ _ _ _ _ _) fun b hb=> by simp only [List.mem_cons,List.not_mem_nil,or_false];exact fun h=> hg (h ▸ hb)⟩
def Lives:Prop:=∀ w:World,Calls Tryz.prog 17 #[] w fun e w'=> e=.returned (F true)∧Keeps [] w w'
end Go.Proofs.YtjnlkjlbejelgaaGreat
