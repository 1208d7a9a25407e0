/- Part 27 of the proof. No condition: every lemma says its own. -/
import Derived.Test.YtjnlkjlbejelgaaGreatLaz
import Derived.Test.YtjnlkjlbejelgaaGreatLar
namespace Go.Proofs.YtjnlkjlbejelgaaGreat
open Go.RowKit
open Go.Value renaming int→H,slice→M,bool→F
open Go.IntKind renaming i64→J
set_option maxRecDepth 100000
set_option maxHeartbeats 16000000
theorem wpAnyH_mono {P:Program} {md:Region.Mode} {ops:Array Oper} {Q:Exit→Act→World→Prop} {S S':World→Prop} (h:∀ w,S' w→S w):∀ {fuel:Nat} {listed:Array Bool} {a:Act} {w:World},wpAnyH P md ops Q S' fuel listed a w→wpAnyH P md ops Q S fuel listed a w
 | 0,_,_,_,H'=> H'
 | _ + 1,_,_,_,H'=> ⟨H'.1,fun i hi=> wpOp_mono (fun _ w' h'=> ⟨h w' h'.1,wpAnyH_mono h h'.2⟩) (H'.2 i hi)⟩
theorem branch_three {P:Program} {Q:Exit→Act→World→Prop} {md:Region.Mode} {S:World→Prop} {l r r' r'':List Oper} {i j k:Nat} {oi oj ok:Oper} {fuel:Nat} {listed:Array Bool} {a:Act} {w:World}
  (hd:l.drop i=oi::r) (hd':l.drop j=oj::r') (hd'':l.drop k=ok::r'') (hr:Region.ready md l.toArray listed=[i,j,k]) (hw:Region.wanted oi (yielded l.toArray a.tmps)=true) (hw':Region.wanted oj (yielded l.toArray a.tmps)=true) (hw'':Region.wanted ok (yielded l.toArray a.tmps)=true)
  (h:∀ K':Act→World→Prop,Shut (∀ a w,S w→(S w→wpAnyH P md l.toArray Q S fuel (listed.setIfInBounds i true) a w)→K' a w)→Oper.wp P oi a w K' Q)
  (h':∀ K':Act→World→Prop,Shut (∀ a w,S w→(S w→wpAnyH P md l.toArray Q S fuel (listed.setIfInBounds j true) a w)→K' a w)→Oper.wp P oj a w K' Q)
  (h'':∀ K':Act→World→Prop,Shut (∀ a w,S w→(S w→wpAnyH P md l.toArray Q S fuel (listed.setIfInBounds k true) a w)→K' a w)→Oper.wp P ok a w K' Q):
  wpAnyH P md l.toArray Q S (fuel + 1) listed a w:=
 wpAnyH_ready hr (by simp) (AllReadyH.cons (by rw [List.getElem?_toArray,←List.head?_drop,hd];rfl) (fun K hK=> by rw [if_pos hw];exact h K hK) (AllReadyH.cons (by rw [List.getElem?_toArray,←List.head?_drop,hd'];rfl) (fun K hK=> by rw [if_pos hw'];exact h' K hK) (AllReadyH.cons (by rw [List.getElem?_toArray,←List.head?_drop,hd''];rfl) (fun K hK=> by rw [if_pos hw''];exact h'' K hK) AllReadyH.nil)))
theorem branch_four {P:Program} {Q:Exit→Act→World→Prop} {md:Region.Mode} {S:World→Prop} {l r1 r2 r3 r4:List Oper} {i j k l':Nat} {oi oj ok ol:Oper} {fuel:Nat} {listed:Array Bool} {a:Act} {w:World}
  (d1:l.drop i=oi::r1) (d2:l.drop j=oj::r2) (d3:l.drop k=ok::r3) (d4:l.drop l'=ol::r4) (hr:Region.ready md l.toArray listed=[i,j,k,l']) (w1:Region.wanted oi (yielded l.toArray a.tmps)=true) (w2:Region.wanted oj (yielded l.toArray a.tmps)=true) (w3:Region.wanted ok (yielded l.toArray a.tmps)=true) (w4:Region.wanted ol (yielded l.toArray a.tmps)=true)
  (h1:∀ K':Act→World→Prop,Shut (∀ a w,S w→(S w→wpAnyH P md l.toArray Q S fuel (listed.setIfInBounds i true) a w)→K' a w)→Oper.wp P oi a w K' Q)
  (h2:∀ K':Act→World→Prop,Shut (∀ a w,S w→(S w→wpAnyH P md l.toArray Q S fuel (listed.setIfInBounds j true) a w)→K' a w)→Oper.wp P oj a w K' Q)
  (h3:∀ K':Act→World→Prop,Shut (∀ a w,S w→(S w→wpAnyH P md l.toArray Q S fuel (listed.setIfInBounds k true) a w)→K' a w)→Oper.wp P ok a w K' Q)
  (h4:∀ K':Act→World→Prop,Shut (∀ a w,S w→(S w→wpAnyH P md l.toArray Q S fuel (listed.setIfInBounds l' true) a w)→K' a w)→Oper.wp P ol a w K' Q):
  wpAnyH P md l.toArray Q S (fuel + 1) listed a w:=
 wpAnyH_ready hr (by simp) (AllReadyH.cons (by rw [List.getElem?_toArray,←List.head?_drop,d1];rfl) (fun K hK=> by rw [if_pos w1];exact h1 K hK) (AllReadyH.cons (by rw [List.getElem?_toArray,←List.head?_drop,d2];rfl) (fun K hK=> by rw [if_pos w2];exact h2 K hK) (AllReadyH.cons (by rw [List.getElem?_toArray,←List.head?_drop,d3];rfl) (fun K hK=> by rw [if_pos w3];exact h3 K hK) (AllReadyH.cons (by rw [List.getElem?_toArray,←List.head?_drop,d4];rfl) (fun K hK=> by rw [if_pos w4];exact h4 K hK) AllReadyH.nil))))
theorem rep_cell (W:World) (L:List Int) (T k:Nat) (h:k < L.length):(W.alloc (.cells (L.map (H J)).toArray T)).cell? ⟨W.heap.size,k,none⟩=some (H J (L.getD k 0)):=by
 simp only [World.cell?];rw [heap_alloc_new W];simp [h,List.getD_eq_getElem?_getD]
theorem rep_end {w1 V:World} {g r T:Nat} {la lc zs uses lf0 lf} (h0:MakerAt w1 g la lc zs uses lf0) (hm:MakerAt V g la lc zs uses lf) (hk:Keeps [g] w1 V) (hr:w1.heap.size≤r) (hz:V.heap[r]? =some (.cells #[H J 0,M none 0 0,M none 0 0,H J 0,H J 0,H J 0,H J 0,F false] T (0,0))) (mn mx x:Int):
  (set8 V r (H J 4) (M none 0 0) (M none 0 0) (H J mn) (H J mx) (H J x) (H J 0) (F false)).heap[r]? =some (.cells #[H J 4,M none 0 0,M none 0 0,H J mn,H J mx,H J x,H J 0,F false] T (0,0))∧
  MakerAt (set8 V r (H J 4) (M none 0 0) (M none 0 0) (H J mn) (H J mx) (H J x) (H J 0) (F false)) g la lc zs uses lf∧
  Keeps [g] w1 (set8 V r (H J 4) (M none 0 0) (M none 0 0) (H J mn) (H J mx) (H J x) (H J 0) (F false)):=by
 have hk8:=set8_keeps V r (H J 4) (M none 0 0) (M none 0 0) (H J mn) (H J mx) (H J x) (H J 0) (F false);exact ⟨set8_heap hz _ _ _ _ _ _ _ _,h0.keepB hm hr hk8,hk.after hk8 (by intro y hy;simp at hy;subst hy;exact .inr hr)⟩
theorem rep_ok {k:Nat} (hk:k < 12) {y:Int} (hy:0≤y∧y≤2):NodeOK 4 [] 1 (([0,0,0,0,1,1,1,0,2,0,1,2]:List Int).getD k 0) (([-1,-1,-1,1,-1,-1,2,2,2,3,1,-1]:List Int).getD k 0) y 0 false:=by
 obtain rfl | rfl | rfl | rfl | rfl | rfl | rfl | rfl | rfl | rfl | rfl | rfl:k=0∨k=1∨k=2∨k=3∨k=4∨k=5∨k=6∨k=7∨k=8∨k=9∨k=10∨k=11:=by omega
 all_goals (constructor <;> first | omega | (intro h;omega) | (intro _;simp;omega) | simp)
theorem set8_any {w:World} {g T:Nat} {u0 u1 u2 u3 u4 u5 u6 u7:Value} (h:w.heap[g]? =some (.cells #[u0,u1,u2,u3,u4,u5,u6,u7] T (0,0))) (v0 v1 v2 v3 v4 v5 v6 v7:Value):(set8 w g v0 v1 v2 v3 v4 v5 v6 v7).heap[g]? =some (.cells #[v0,v1,v2,v3,v4,v5,v6,v7] T (0,0)):=by
 have h0:(w.setCell ⟨g,0,none⟩ v0).heap[g]? =some (.cells #[v0,u1,u2,u3,u4,u5,u6,u7] T (0,0)):=heap_setCell_same _ g 0 _ T v0 h;have h1:((w.setCell ⟨g,0,none⟩ v0).setCell ⟨g,1,none⟩ v1).heap[g]? =some (.cells #[v0,v1,u2,u3,u4,u5,u6,u7] T (0,0)):=heap_setCell_same _ g 1 _ T v1 h0;have h2:(((w.setCell ⟨g,0,none⟩ v0).setCell ⟨g,1,none⟩ v1).setCell ⟨g,2,none⟩ v2).heap[g]? =some (.cells #[v0,v1,v2,u3,u4,u5,u6,u7] T (0,0)):=heap_setCell_same _ g 2 _ T v2 h1;have h3:((((w.setCell ⟨g,0,none⟩ v0).setCell ⟨g,1,none⟩ v1).setCell ⟨g,2,none⟩ v2).setCell ⟨g,3,none⟩ v3).heap[g]? =some (.cells #[v0,v1,v2,v3,u4,u5,u6,u7] T (0,0)):=heap_setCell_same _ g 3 _ T v3 h2;have h4:(((((w.setCell ⟨g,0,none⟩ v0).setCell ⟨g,1,none⟩ v1).setCell ⟨g,2,none⟩ v2).setCell ⟨g,3,none⟩ v3).setCell ⟨g,4,none⟩ v4).heap[g]? =some (.cells #[v0,v1,v2,v3,v4,u5,u6,u7] T (0,0)):=heap_setCell_same _ g 4 _ T v4 h3;have h5:((((((w.setCell ⟨g,0,none⟩ v0).setCell ⟨g,1,none⟩ v1).setCell ⟨g,2,none⟩ v2).setCell ⟨g,3,none⟩ v3).setCell ⟨g,4,none⟩ v4).setCell ⟨g,5,none⟩ v5).heap[g]? =some (.cells #[v0,v1,v2,v3,v4,v5,u6,u7] T (0,0)):=heap_setCell_same _ g 5 _ T v5 h4;have h6:(((((((w.setCell ⟨g,0,none⟩ v0).setCell ⟨g,1,none⟩ v1).setCell ⟨g,2,none⟩ v2).setCell ⟨g,3,none⟩ v3).setCell ⟨g,4,none⟩ v4).setCell ⟨g,5,none⟩ v5).setCell ⟨g,6,none⟩ v6).heap[g]? =some (.cells #[v0,v1,v2,v3,v4,v5,v6,u7] T (0,0)):=heap_setCell_same _ g 6 _ T v6 h5;have h7:((((((((w.setCell ⟨g,0,none⟩ v0).setCell ⟨g,1,none⟩ v1).setCell ⟨g,2,none⟩ v2).setCell ⟨g,3,none⟩ v3).setCell ⟨g,4,none⟩ v4).setCell ⟨g,5,none⟩ v5).setCell ⟨g,6,none⟩ v6).setCell ⟨g,7,none⟩ v7).heap[g]? =some (.cells #[v0,v1,v2,v3,v4,v5,v6,v7] T (0,0)):=heap_setCell_same _ g 7 _ T v7 h6;exact h7
theorem rep_any {d bd:Nat} (TH:TreeGen d bd) (hd:d≤100) (hbd:3≤bd) {w:World} {g:Nat} {la lc zs uses lf} (h:MakerAt w g la lc zs uses lf) (hlf:3≤lf) (hlf2:lf≤1000):
  Calls Tryz.prog 108 #[.pointer (some ⟨g,0,none⟩),H J ((d:Int) + 1)] w (GenPost w g la lc zs uses (Inner lf d) (1 + bd)):=by
 have HM:=gi h;have HLF:=gi (And.intro hlf hlf2);have HTH:=gi TH;have HGL:=gi h.lt;clear TH hlf hlf2;obtain ⟨B,hBe⟩:∃ B,B=w.heap.size:=⟨_,rfl⟩;obtain ⟨X,hXe⟩:∃ X:World,X=w.alloc (.cells #[H J 0,M none 0 0,M none 0 0,H J 0,H J 0,H J 0,H J 0,F false] 26):=⟨_,rfl⟩;have hkX:Keeps [] w X:=by rw [hXe];exact Keeps.a1 _ _
 have hz:X.heap[B]? =some (.cells #[H J 0,M none 0 0,M none 0 0,H J 0,H J 0,H J 0,H J 0,F false] 26 (0,0)):=by rw [hXe,hBe];exact heap_alloc_new w _
 have HMX:=gi (h.keep hkX);have HBE:=gi hBe;have HXE:=gi hXe;have HKX:=gi hkX;have HZ:=gi hz;clear h hBe hXe hkX hz;go_enter Tryz.func108,Tryz.ntmps108
 go_upto_region 1 with fail
 rw [←HXE.o,←HBE.o];go_wp2_with fail
 refine Calls.mono (next_any HMX.o 12 (by omega)) ?_;rintro e w1 ⟨k,hk0,hk12,rfl,hm1,hk1,_⟩;have HM1:=gi hm1;have HK1:=gi hk1;clear hm1 hk1;obtain ⟨kN,hkN⟩:∃ kN:Nat,k=(kN:Int):=⟨k.toNat,by omega⟩;subst hkN;have hkn:kN < 12:=by omega
 have hkI:(kN:Int) < 12:=by omega
 obtain ⟨mn,hmn⟩:∃ mn,mn=([0,0,0,0,1,1,1,0,2,0,1,2]:List Int).getD kN 0:=⟨_,rfl⟩;obtain ⟨mx,hmx⟩:∃ mx,mx=([-1,-1,-1,1,-1,-1,2,2,2,3,1,-1]:List Int).getD kN 0:=⟨_,rfl⟩;have HMN:=gi hmn;have HMX':=gi hmx;have HGL1:=gi HM1.o.lt;go_upto_region 2 with fail
 go_cut [6] (fun s6 wx=> ∃ (r:Nat) (x:Int),s6=.pointer (some ⟨r,0,none⟩)∧0≤x∧x < 2∧wx.heap[r]? =some (.cells #[H J 4,M none 0 0,M none 0 0,H J mn,H J mx,H J x,H J 0,F false] 26 (0,0))∧MakerAt wx g la lc zs uses lf∧Keeps [g] w1 wx∧w1.heap.size≤r)
 case first=>
  clear hmn hmx;refine wp_region_held_drew (S:=fun _=> True) (by kernel_rfl) trivial (fun hHeld=> ?_);have hm:=gi (HM1.o.keep (Keeps.refl [] w1).drew);have hk:=gi ((Keeps.refl [g] w1).drew);have hmn:=HMN.o;have hmx:=HMX'.o
  generalize w1.drew=V at hm hk hHeld ⊢
  refine tk 1 ?_;refine tk 5 ?_;refine tk 8 ?_;clear hHeld;clear hmn hmx;have hmn:=gi HMN.o;have hmx:=gi HMX'.o
  iterate 4
   all_goals
    first
     | (guard_hyp p2;guard_hyp hx0;guard_hyp r0;refine j6 0 fun K hK=> ?_)
     | (guard_hyp p1;guard_hyp hx0;guard_hyp r0;refine j6 4 fun K hK=> ?_)
     | (guard_hyp p1;guard_hyp p2;guard_hyp r0;refine j6 9 fun K hK=> ?_)
     | (guard_hyp p1;guard_hyp p2;guard_hyp hx0;refine j6 11 fun K hK=> ?_)
     | (guard_hyp hx0;guard_hyp r0;refine j7 0 4 (fun K hK=> ?_) fun K hK=> ?_)
     | (guard_hyp p2;guard_hyp r0;refine j7 0 9 (fun K hK=> ?_) fun K hK=> ?_)
     | (guard_hyp p2;guard_hyp hx0;refine j7 0 11 (fun K hK=> ?_) fun K hK=> ?_)
     | (guard_hyp p1;guard_hyp r0;refine j7 4 9 (fun K hK=> ?_) fun K hK=> ?_)
     | (guard_hyp p1;guard_hyp hx0;refine j7 4 11 (fun K hK=> ?_) fun K hK=> ?_)
     | (guard_hyp p1;guard_hyp p2;refine j7 9 11 (fun K hK=> ?_) fun K hK=> ?_)
     | (guard_hyp r0;refine branch_three (i:=0) (j:=4) (k:=9) rfl rfl rfl (by kernel_rfl) (by rfl) (by rfl) (by rfl) (fun K hK=> ?_) (fun K hK=> ?_) (fun K hK=> ?_))
     | (guard_hyp hx0;refine branch_three (i:=0) (j:=4) (k:=11) rfl rfl rfl (by kernel_rfl) (by rfl) (by rfl) (by rfl) (fun K hK=> ?_) (fun K hK=> ?_) (fun K hK=> ?_))
     | (guard_hyp p2;refine branch_three (i:=0) (j:=9) (k:=11) rfl rfl rfl (by kernel_rfl) (by rfl) (by rfl) (by rfl) (fun K hK=> ?_) (fun K hK=> ?_) (fun K hK=> ?_))
     | (guard_hyp p1;refine branch_three (i:=4) (j:=9) (k:=11) rfl rfl rfl (by kernel_rfl) (by rfl) (by rfl) (by rfl) (fun K hK=> ?_) (fun K hK=> ?_) (fun K hK=> ?_))
     | (refine branch_four (i:=0) (j:=4) (k:=9) (l':=11) rfl rfl rfl rfl (by kernel_rfl) (by rfl) (by rfl) (by rfl) (by rfl) (fun K hK=> ?_) (fun K hK=> ?_) (fun K hK=> ?_) (fun K hK=> ?_))
   all_goals go_simp
   all_goals
    try
     refine Calls.mono (next_any hm.o 2 (by omega)) ?_;rintro e V ⟨x,hx0,hx1,rfl,hmn',hkn',_⟩
     try have p1:=hkn'.cell p1 (by simp;exact d1)
     try have p2:=hkn'.cell p2 (by simp;exact d2)
     try have r0:=gi (hkn'.heap r0.o (by have:=hr.o;have:=HGL1.o;simp;omega))
     have hk:=gi (hk.o.trans hkn');have hm:=gi hmn';clear hmn' hkn'
     first
      | refine hK.out _ _ ⟨p1,p2⟩ (fun _=> ?_)
      | refine hK.out _ _ p1 (fun _=> ?_)
      | refine hK.out _ _ p2 (fun _=> ?_)
      | refine hK.out _ _ trivial (fun _=> ?_)
     clear hK K;try go_frame
     first
      | have hHeld:=And.intro p1 p2
      | have hHeld:=p1
      | have hHeld:=p2
      | have hHeld:=trivial
     try
      refine tk 10 ?_
     clear hHeld
   all_goals
    try
     have hA:=Keeps.a1 V (.cells #[H J 0,H J 0,H J 0,H J 0,H J 1,H J 1,H J 1,H J 0,H J 2,H J 0,H J 1,H J 2] 3);have q:=rep_cell V [0,0,0,0,1,1,1,0,2,0,1,2] 3 kN (by simp;omega);rw [←hmn.o] at q;have q:(V.alloc (.cells #[H J 0,H J 0,H J 0,H J 0,H J 1,H J 1,H J 1,H J 0,H J 2,H J 0,H J 1,H J 2] 3)).cell? ⟨V.heap.size,kN,none⟩=some (H J mn):=q
     try have p2:=hA.c p2
     try have e1:=(show ¬ V.heap.size=rr from by have:=lt_of_block r0.o;omega)
     try have r0:=gi (hA.h r0.o)
     have d1:¬ V.heap.size=g:=by have:=hk.o.size;have:=HGL1.o;omega
     have hm:=gi (hm.o.keep hA);have hk0:=hk.o.size;have hk:=gi (hk.o.alloc (.cells #[H J 0,H J 0,H J 0,H J 0,H J 1,H J 1,H J 1,H J 0,H J 2,H J 0,H J 1,H J 2] 3))
     first
      | refine hK.out _ _ ⟨p1,p2⟩ (fun _=> ?_)
      | refine hK.out _ _ p1 (fun _=> ?_)
      | refine hK.out _ _ p2 (fun _=> ?_)
      | refine hK.out _ _ trivial (fun _=> ?_)
     clear hK K;try go_frame
     obtain ⟨b1,hb1⟩:∃ b,b=V.heap.size:=⟨_,rfl⟩;rw [←hb1] at q d1 ⊢
     try rw [←hb1] at e1
     clear hb1 hk0 hA;obtain ⟨V,hV⟩:∃ V',V'=V.alloc (.cells #[H J 0,H J 0,H J 0,H J 0,H J 1,H J 1,H J 1,H J 0,H J 2,H J 0,H J 1,H J 2] 3):=⟨_,rfl⟩;rw [←hV] at hm hk q ⊢
     try rw [←hV] at p2
     try rw [←hV] at r0
     clear hV;have p1:=q;clear q
     first
      | refine wpAnyH_mono (S':=fun w'=> w'.cell? ⟨b1,kN,none⟩=some (H J mn)∧w'.cell? ⟨b2,kN,none⟩=some (H J mx)) (fun w' h=> h.2) ?_
      | refine wpAnyH_mono (S':=fun w'=> w'.cell? ⟨b1,kN,none⟩=some (H J mn)) (fun w' h=> trivial) ?_
     first
      | have hHeld:=And.intro p1 p2
      | have hHeld:=p1
      | have hHeld:=p2
      | have hHeld:=trivial
     refine tk 2 ?_;refine tk 3 ?_
     try
      refine tk 10 ?_
     clear hHeld
   all_goals
    try
     have hA:=Keeps.a1 V (.cells #[H J (-1),H J (-1),H J (-1),H J 1,H J (-1),H J (-1),H J 2,H J 2,H J 2,H J 3,H J 1,H J (-1)] 3);have q:=rep_cell V [-1,-1,-1,1,-1,-1,2,2,2,3,1,-1] 3 kN (by simp;omega);rw [←hmx.o] at q;have q:(V.alloc (.cells #[H J (-1),H J (-1),H J (-1),H J 1,H J (-1),H J (-1),H J 2,H J 2,H J 2,H J 3,H J 1,H J (-1)] 3)).cell? ⟨V.heap.size,kN,none⟩=some (H J mx):=q
     try have p1:=hA.c p1
     try have e2:=(show ¬ V.heap.size=rr from by have:=lt_of_block r0.o;omega)
     try have r0:=gi (hA.h r0.o)
     have d2:¬ V.heap.size=g:=by have:=hk.o.size;have:=HGL1.o;omega
     have hm:=gi (hm.o.keep hA);have hk0:=hk.o.size;have hk:=gi (hk.o.alloc (.cells #[H J (-1),H J (-1),H J (-1),H J 1,H J (-1),H J (-1),H J 2,H J 2,H J 2,H J 3,H J 1,H J (-1)] 3))
     first
      | refine hK.out _ _ ⟨p1,p2⟩ (fun _=> ?_)
      | refine hK.out _ _ p1 (fun _=> ?_)
      | refine hK.out _ _ p2 (fun _=> ?_)
      | refine hK.out _ _ trivial (fun _=> ?_)
     clear hK K;try go_frame
     obtain ⟨b2,hb2⟩:∃ b,b=V.heap.size:=⟨_,rfl⟩;rw [←hb2] at q d2 ⊢
     try rw [←hb2] at e2
     clear hb2 hk0 hA;obtain ⟨V,hV⟩:∃ V',V'=V.alloc (.cells #[H J (-1),H J (-1),H J (-1),H J 1,H J (-1),H J (-1),H J 2,H J 2,H J 2,H J 3,H J 1,H J (-1)] 3):=⟨_,rfl⟩;rw [←hV] at hm hk q ⊢
     try rw [←hV] at p1
     try rw [←hV] at r0
     clear hV;have p2:=q;clear q
     first
      | refine wpAnyH_mono (S':=fun w'=> w'.cell? ⟨b1,kN,none⟩=some (H J mn)∧w'.cell? ⟨b2,kN,none⟩=some (H J mx)) (fun w' h=> h.1) ?_
      | refine wpAnyH_mono (S':=fun w'=> w'.cell? ⟨b2,kN,none⟩=some (H J mx)) (fun w' h=> trivial) ?_
     first
      | have hHeld:=And.intro p1 p2
      | have hHeld:=p1
      | have hHeld:=p2
      | have hHeld:=trivial
     refine tk 6 ?_;refine tk 7 ?_
     try
      refine tk 10 ?_
     clear hHeld
   all_goals
    try
     have hA:=Keeps.a1 V (.cells #[H J 0,M none 0 0,M none 0 0,H J 0,H J 0,H J 0,H J 0,F false] 26)
     try have e1:=(show ¬ b1=V.heap.size from fun h2=> by have h:=World.block_lt_of_cell? _ _ p1;simp at h;omega)
     try have e2:=(show ¬ b2=V.heap.size from fun h2=> by have h:=World.block_lt_of_cell? _ _ p2;simp at h;omega)
     try have p1:=hA.c p1
     try have p2:=hA.c p2
     have r0:=gi (heap_alloc_new V (.cells #[H J 0,M none 0 0,M none 0 0,H J 0,H J 0,H J 0,H J 0,F false] 26));have hr:=gi hk.o.size;have hm:=gi (hm.o.keep hA);have hk0:=hk.o.size;have hk:=gi (hk.o.alloc (.cells #[H J 0,M none 0 0,M none 0 0,H J 0,H J 0,H J 0,H J 0,F false] 26))
     first
      | refine hK.out _ _ ⟨p1,p2⟩ (fun _=> ?_)
      | refine hK.out _ _ p1 (fun _=> ?_)
      | refine hK.out _ _ p2 (fun _=> ?_)
      | refine hK.out _ _ trivial (fun _=> ?_)
     clear hK K;try go_frame
     obtain ⟨rr,hrr⟩:∃ b,b=V.heap.size:=⟨_,rfl⟩;rw [←hrr] at r0 hr ⊢
     try rw [←hrr] at e1
     try rw [←hrr] at e2
     clear hrr hk0 hA;obtain ⟨V,hV⟩:∃ V',V'=V.alloc (.cells #[H J 0,M none 0 0,M none 0 0,H J 0,H J 0,H J 0,H J 0,F false] 26):=⟨_,rfl⟩;rw [←hV] at hm hk r0 ⊢
     try rw [←hV] at p1
     try rw [←hV] at p2
     clear hV
  all_goals
   have hHeld:=And.intro p1 p2;obtain ⟨z0,z1,z2,z3,z4,z5,z6,z7,zf⟩:=zero_cells r0.o;have KS:=gi (set8_keeps V rr (H J 4) (M none 0 0) (M none 0 0) (H J mn) (H J mx) (H J x) (H J 0) (F false));have HEND:=gi (rep_end HM1.o hm.o hk.o hr.o r0.o mn mx x);have hne1:=hr.o;refine j6 12 fun K hK=> ?_;go_simp;refine hK.out _ _ (⟨KS.o.cell p1 (by simp;exact e1),KS.o.cell p2 (by simp;exact e2)⟩) (fun hHeld=> ?_);clear hK K;try go_frame
   refine wd ?_;go_wp2;go_meet;exact ⟨_,x,rfl,hx0,hx1,HEND.o.1,HEND.o.2.1,HEND.o.2.2,hr.o⟩
 case rest=>
  obtain ⟨r,x,rfl,hx0,hx1,hr,hm,hk,hrl⟩:=hcut;have HM2:=gi hm;have HK2:=gi (HK1.o.trans hk);have HR2:=gi hr;have HRL:=gi (Nat.le_trans HK1.o.size hrl);have HX:=gi (And.intro hx0 hx1);clear hm hk hr hrl hmn hmx;go_upto_region 3 with fail
  go_cut [31] (fun s31 wx=> ∃ b:Bool,s31=F b∧wx.heap[r]? =some (.cells #[H J 4,M none 0 0,M none 0 0,H J mn,H J mx,H J x,H J 0,F false] 26 (0,0))∧MakerAt wx g la lc zs uses lf∧Keeps [g] X wx)
  case first=>
   obtain ⟨at1,cp1,h01,h11,hr1⟩:=HM2.o.row;obtain ⟨c0,c1,c2,c3,c4,cf⟩:=row5_cells hr1;clear hr1
   by_cases hu:0 < bits BinOp.and IntKind.i64 uses 8
   ·go_wp2_with fail
    refine Calls.mono (next_any HM2.o 4 (by omega)) ?_;rintro e w3 ⟨z,hz0,hz1,rfl,hm3,hk3,_⟩;have hne:r≠g:=by have:=HRL.o;have:=HGL.o;have:=HKX.o.size;omega
    have HR3:=gi (hk3.heap HR2.o (by simp;exact hne));have HM3:=gi hm3;have HK3:=gi (HK2.o.trans hk3);clear hm3 hk3 hne c0 c1 c2 c3 c4 cf;obtain ⟨q,hq⟩:∃ q:Bool,(z==0)=q:=⟨_,rfl⟩;go_wp2;go_meet;exact ⟨q,rfl,HR3.o,HM3.o,HK3.o⟩
   ·go_wp2;go_meet;exact ⟨false,rfl,HR2.o,HM2.o,HK2.o⟩
  case rest=>
  obtain ⟨b,rfl,hr,hm,hk⟩:=hcut;have HR3:=gi hr;have HM3:=gi hm;have HK3:=gi hk;clear hm hk hr
  go_upto_if 31 with fail
  go_cut [32] (fun s32 wx=> ∃ y:Int,0≤y∧y≤2∧wx.heap[r]? =some (.cells #[H J 4,M none 0 0,M none 0 0,H J mn,H J mx,H J y,H J 0,F false] 26 (0,0))∧MakerAt wx g la lc zs uses lf∧Keeps [g] X wx)
  case first=>
   have hgl:=HGL.o;have hrl:=HRL.o;have hxs:=HKX.o.size;have hne:r≠g:=by omega
   have hxx:=HX.o
   cases b with
   | false=>
    go_wp2;go_meet;exact ⟨x,by omega,by omega,HR3.o,HM3.o,HK3.o⟩
   | true=>
    obtain ⟨e0,e1,e2,e3,e4,e5,e6,e7⟩:=row_cells HR3.o;have ef:=row_frozen HR3.o;go_wp2;go_meet;have hkV:Keeps [r] wc (wc.setCell ⟨r,5,none⟩ (H J 2)):=(Keeps.refl [r] _).setCell (p:=⟨r,5,none⟩) (.inl (by simp)) _;exact ⟨2,by omega,by omega,heap_setCell_same _ r 5 _ _ _ HR3.o,HM.o.keepB HM3.o (by omega) hkV,HK3.o.after hkV (by intro q hq;simp at hq;subst hq;exact .inr hrl)⟩
  case rest=>
  obtain ⟨y,hy0,hy2,hr,hm,hk⟩:=hcut;have HY:=gi (And.intro hy0 hy2);have HR4:=gi hr;have HM4:=gi hm;have HK4:=gi hk;clear hm hk hr hy0 hy2;go_wp2_with fail
  refine Calls.mono (HTH.o _ g la lc zs uses lf HM4.o (by have:=HLF.o;omega) HLF.o.2) ?_;rintro e w5 ⟨m',lf5,rfl,ho5,hm5,hk5,hf5,hwf,hbd',hP5⟩;have HP5:=gi hP5;have HO5:=gi ho5;have HM5:=gi hm5;have HK5:=gi (show Keeps [g] X w5 from HK4.o.trans hk5);have HF5:=gi (show ∀ b∈m'.blocks,X.heap.size≤b∧b≠r from fun b hb=> ⟨Nat.le_trans HK4.o.size (hf5 b hb),fun h=> by have:=hf5 b hb;have:=lt_of_block HR4.o;omega⟩);have HWF:=gi hwf;have HBD:=gi hbd';have hne:r≠g:=by have:=HRL.o;have:=HGL.o;have:=HKX.o.size;omega
  have HR5:=gi (hk5.heap HR4.o (by simp;exact hne));have HNE:=gi hne;have HNU:=gi (fun (W:World) (h:Keeps [] w5 W)=> rnull_any m' W (ho5.keep h) hwf.q);obtain ⟨m0,hm0⟩:∃ m0,m0=m':=⟨_,rfl⟩;rw [←hm0] at HO5 HF5 HWF HBD HP5;have HM0:=gi hm0;obtain ⟨q,hq⟩:∃ q,q=nullP m'.tree:=⟨_,rfl⟩;simp only [←hq] at HNU;obtain ⟨op2,sa2,sc2,set2,ka2,kc2,kids2,mn2,mx2,mode2,n2,neg2⟩:=m';simp only [MRe.val] at HNU ⊢;clear ho5 hm5 hk5 hf5 hwf hbd' hm0 hq hne hP5;go_upto_region 6 with fail
  go_cut [46] (fun s46 wx=> ∃ b:Bool,s46=F b∧Keeps [] (w5.alloc (.cells #[H J op2,M sa2 set2.length sc2,M ka2 kids2.length kc2,H J mn2,H J mx2,H J mode2,H J n2,F neg2] 26)) wx)
  case first=>
   obtain ⟨at1,cp1,h01,h11,hr1⟩:=(HM5.o.keep (Keeps.a1 w5 (.cells #[H J op2,M sa2 set2.length sc2,M ka2 kids2.length kc2,H J mn2,H J mx2,H J mode2,H J n2,F neg2] 26))).row;obtain ⟨c0,c1,c2,c3,c4,cf⟩:=row5_cells hr1;obtain ⟨e0,e1,e2,e3,e4,e5,e6,e7⟩:=row_cells (heap_alloc_new w5 (.cells #[H J op2,M sa2 set2.length sc2,M ka2 kids2.length kc2,H J mn2,H J mx2,H J mode2,H J n2,F neg2] 26));clear hr1;have HR1:=gi (heap_alloc_new w5 (.cells #[H J op2,M sa2 set2.length sc2,M ka2 kids2.length kc2,H J mn2,H J mx2,H J mode2,H J n2,F neg2] 26));obtain ⟨b2,hu⟩:∃ b2:Bool,(bits BinOp.and IntKind.i64 uses 32==0)=b2:=⟨_,rfl⟩
   cases b2 with
   | true=>
    go_wp2_with fail
    refine Calls.mono (HNU.o _ (Keeps.a1 w5 _)) ?_;rintro e w6 ⟨rfl,hk6⟩;have HK6:=gi hk6;clear hk6 c0 c1 c2 c3 c4 cf e0 e1 e2 e3 e4 e5 e6 e7;go_wp2;go_meet;exact ⟨q,rfl,HK6.o⟩
   | false=>
    go_wp2;go_meet;exact ⟨false,rfl,Keeps.refl _ _⟩
  case rest=>
  obtain ⟨b,rfl,hk⟩:=hcut;have HA:=gi (show Keeps [] w5 wc from (Keeps.a1 w5 _).trans hk);have HL6:=gi (hk.heap (heap_alloc_new w5 (.cells #[H J op2,M sa2 set2.length sc2,M ka2 kids2.length kc2,H J mn2,H J mx2,H J mode2,H J n2,F neg2] 26)) (by simp));clear hk;obtain ⟨L,hLe⟩:∃ L,L=w5.heap.size:=⟨_,rfl⟩;rw [←hLe] at HL6;have HLE:=gi hLe;have HM6:=gi (HM5.o.keep HA.o);have HK6:=gi (HK5.o.trans (HA.o.mono (S':=[g]) (by simp)));have HR6:=gi (HA.o.h HR5.o);have HLL:=gi (show X.heap.size≤L∧L≠r∧L≠g by
   have h1:=HK5.o.size;have h2:=lt_of_block HR5.o;have h3:=HM5.o.lt;rw [hLe]
   omega)
  go_upto_if 46 with fail
  rw [←hLe];clear hLe
  go_cut [48] (fun s48 wx=> ∃ s:MRe,wx.heap[L]? =some (.cells s.row.toArray 26 (0,0))∧s.OK wx∧MakerAt wx g la lc zs uses lf5∧Keeps [g] X wx∧wx.heap[r]? =some (.cells #[H J 4,M none 0 0,M none 0 0,H J mn,H J mx,H J y,H J 0,F false] 26 (0,0))∧s.tree.WF∧s.tree.bulk≤bd∧(∀ b∈s.blocks,X.heap.size≤b∧b≠r∧b≠L)∧Left lf d lf5 s.tree)
  case first=>
   cases b with
   | false=>
    go_wp2;go_meet;exact ⟨m0,by rw [HL6.o,HM0.o];rfl,HO5.o.keep HA.o,HM6.o,HK6.o,HR6.o,HWF.o,HBD.o,fun b hb=> ⟨(HF5.o b hb).1,(HF5.o b hb).2,fun h=> by have:=HO5.o.block_lt b hb;have:=HLE.o;omega⟩,HP5.o⟩
   | true=>
    go_wp2_with fail
    refine Calls.mono (set_any HM6.o) ?_;rintro e w7 ⟨s,lf7,rfl,hso,hsm,hsk,hsf,hsw,hsb,hs7⟩;obtain ⟨rfl,hs8,hs9⟩:=hs7;have HS8:=gi (And.intro hs8 hs9);have hll:=HLL.o;have hL7:=hsk.heap HL6.o (by simp;exact hll.2.2);obtain ⟨e0,e1,e2,e3,e4,e5,e6,e7⟩:=row_cells hL7;have ef:=row_frozen hL7;have HL7:=gi hL7;have HSO:=gi hso;have HSM:=gi hsm;have HSK:=gi hsk;have HSF:=gi (show ∀ b∈s.blocks,X.heap.size≤b∧b≠r∧b≠L from fun b hb=> by
     have h1:=hsf b hb;have h2:=lt_of_block HL6.o;have h3:=lt_of_block HR6.o
     omega)
    have HSW:=gi hsw;have HSB:=gi hsb;obtain ⟨s0,hs0⟩:∃ s0,s0=s:=⟨_,rfl⟩;rw [←hs0] at HSO HSF HSW HSB HS8;have HS0:=gi hs0;obtain ⟨op3,sa3,sc3,set3,ka3,kc3,kids3,mn3,mx3,mode3,n3,neg3⟩:=s;simp only [MRe.val];clear hL7 hso hsm hsk hsf hsw hsb hs0 hs8 hs9;go_wp2;go_meet;have hk8:=set8_keeps w7 L (H J op3) (M sa3 set3.length sc3) (M ka3 kids3.length kc3) (H J mn3) (H J mx3) (H J mode3) (H J n3) (F neg3);have hxs:=HKX.o.size;refine ⟨s0,by rw [HS0.o];exact set8_any HL7.o _ _ _ _ _ _ _ _,HSO.o.keepS hk8 fun b hb=> by have:=(HSF.o b hb).2.2;simp;omega,HM.o.keepB HSM.o (by omega) hk8,(HK6.o.trans HSK.o).after hk8 (by intro q hq;simp at hq;subst hq;exact .inr hll.1),hk8.heap (HSK.o.heap HR6.o (by simp;exact HNE.o)) (by simp;omega),HSW.o,by have:=HSB.o;omega,HSF.o,left_lone HP5.o HS8.o⟩
  case rest=>
  obtain ⟨s,hL,hso,hm,hk,hr,hsw,hsb,hsf,hsp⟩:=hcut;have HSP:=gi hsp;have HSO:=gi hso;have HM8:=gi hm;have HK8:=gi hk;have HSW:=gi hsw;have HSB:=gi hsb;have HSF:=gi hsf;obtain ⟨s0,hs0⟩:∃ s0,s0=s:=⟨_,rfl⟩;rw [←hs0] at HSO HSW HSB HSF HSP;have HS0:=gi hs0;obtain ⟨op4,sa4,sc4,set4,ka4,kc4,kids4,mn4,mx4,mode4,n4,neg4⟩:=s;obtain ⟨e0,e1,e2,e3,e4,e5,e6,e7⟩:=row_cells (show wc.heap[L]? =some (.cells #[H J op4,M sa4 set4.length sc4,M ka4 kids4.length kc4,H J mn4,H J mx4,H J mode4,H J n4,F neg4] 26 (0,0)) from hL);have HRLT:=gi (lt_of_block hr);have hrA:=(Keeps.a1 wc (.cells #[H J op4,M sa4 set4.length sc4,M ka4 kids4.length kc4,H J mn4,H J mx4,H J mode4,H J n4,F neg4] 26)).h hr;obtain ⟨f0,f1,f2,f3,f4,f5,f6,f7⟩:=row_cells hrA;have ff:=row_frozen hrA;have HRA:=gi hrA;have HRG:=gi (heap_alloc_new wc (.cells #[H J op4,M sa4 set4.length sc4,M ka4 kids4.length kc4,H J mn4,H J mx4,H J mode4,H J n4,F neg4] 26));clear hL hso hm hk hr hsw hsb hsf hs0 hrA hsp;go_upto_region 9 with fail
  obtain ⟨V,hVe⟩:∃ V,V=(wc.alloc (.cells #[H J op4,M sa4 set4.length sc4,M ka4 kids4.length kc4,H J mn4,H J mx4,H J mode4,H J n4,F neg4] 26)).setCell ⟨r,2,none⟩ (M (some ⟨wc.heap.size,0,none⟩) 1 1):=⟨_,rfl⟩;rw [←hVe];have hkV:Keeps [r] (wc.alloc (.cells #[H J op4,M sa4 set4.length sc4,M ka4 kids4.length kc4,H J mn4,H J mx4,H J mode4,H J n4,F neg4] 26)) V:=by rw [hVe];exact (Keeps.refl [r] _).setCell (p:=⟨r,2,none⟩) (.inl (by simp)) _
  have hVr:V.heap[r]? =some (.cells #[H J 4,M none 0 0,M (some ⟨wc.heap.size,0,none⟩) 1 1,H J mn,H J mx,H J y,H J 0,F false] 26 (0,0)):=by rw [hVe];exact heap_setCell_same _ r 2 _ _ _ HRA.o
  obtain ⟨x0,x1,x2,x3,x4,x5,x6,x7⟩:=row_cells hVr;have hgl:=HGL.o;have hxs:=HKX.o.size;have hrl:=HRL.o;have h8s:=HK8.o.size;have hbe:=HBE.o;have hXS:B + 1≤X.heap.size:=by rw [HXE.o,HBE.o];simp
  have hrlt:=lt_of_block HRA.o;have hGr:wc.heap.size≠r:=by have:=HRLT.o;omega
  have hzV:V.heap[B]? =some (.cells #[H J 0,M none 0 0,M none 0 0,H J 0,H J 0,H J 0,H J 0,F false] 26 (0,0)):=hkV.heap ((Keeps.a1 wc _).heap (HK8.o.heap HZ.o (by simp;omega)) (by simp)) (by simp;omega);obtain ⟨z0,z1,z2,z3,z4,z5,z6,z7,zf⟩:=zero_cells hzV;have hGV:V.heap[wc.heap.size]? =some (.cells #[H J op4,M sa4 set4.length sc4,M ka4 kids4.length kc4,H J mn4,H J mx4,H J mode4,H J n4,F neg4] 26 (0,0)):=hkV.heap HRG.o (by simp;exact hGr);have hsV:s0.OK V:=(HSO.o.keep (Keeps.a1 wc _)).keepS hkV fun b hb=> by have:=(HSF.o b hb).2.1;simp;omega
  have hoV:MRe.OK V (.node 4 none 0 [] (some ⟨wc.heap.size,0,none⟩) 1 [s0] mn mx y 0 false):=.of (SpansIn.nil _) ⟨NodesIn.of_block (kids:=[s0]) hGV (by rw [HS0.o];simp [flatK,MRe.row]) (by simp [maxLen]),fun x hx=> by
   simp only [List.mem_cons,List.not_mem_nil,or_false] at hx;subst hx;exact hsV⟩
  obtain ⟨hR,hok,hm,hk,hfr⟩:=gen_store HM.o (HM.o.keepB (HM8.o.keep (Keeps.a1 wc (.cells #[H J op4,M sa4 set4.length sc4,M ka4 kids4.length kc4,H J mn4,H J mx4,H J mode4,H J n4,F neg4] 26))) (by omega) hkV) (((HKX.o.mono (S':=[g]) (by simp)).trans (HK8.o.alloc _)).after hkV (by intro q hq;simp at hq;subst hq;exact .inr (by omega))) (by omega) hzV hoV (fun b hb=> by
   simp only [MRe.blocks,MRe.blocksL,List.mem_append,List.not_mem_nil,or_false] at hb
   rcases hb with h | h | h
   ·simp [blockIf] at h
   ·simp [blockIf] at h;subst h;omega
   ·have:=(HSF.o b h).1;omega)
  have H1:=gi hR;have H2:=gi hok;have H3:=gi hm;have H4:=gi hk;have H5:=gi hfr;clear hR hok hm hk hfr hVe hkV hVr hzV hGV hsV hoV hgl hxs hrl h8s hbe hXS hrlt hGr f0 f1 f2 f3 f4 f5 f6 f7 ff e0 e1 e2 e3 e4 e5 e6 e7;go_wp2;refine rc H1.o ?_;exact ⟨_,_,rfl,H2.o,H3.o,H4.o,H5.o,.mk (by
   show NodeOK 4 [] 1 mn mx y 0 false
   rw [HMN.o,HMX'.o];exact rep_ok hkn HY.o) (by intro k hk;simp only [MRe.trees,List.mem_cons,List.not_mem_nil,or_false] at hk;subst hk;exact HSW.o),by have:=HSB.o;show 1 + 0 + (s0.tree.bulk + 0)≤1 + bd;omega,one_inner HLF.o.1 HSP.o⟩
end Go.Proofs.YtjnlkjlbejelgaaGreat
