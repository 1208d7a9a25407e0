/- Part 36 of the proof. No condition: every lemma says its own. -/
import Derived.Deep.DeepCutAuto
import Derived.Test.YtjnlkjlbejelgaaGreatQbi
import Derived.Test.YtjnlkjlbejelgaaGreatQal
import Derived.Test.YtjnlkjlbejelgaaGreatQah
import Derived.Test.YtjnlkjlbejelgaaGreatQad
import Derived.Test.YtjnlkjlbejelgaaGreatQag
namespace Go.Proofs.YtjnlkjlbejelgaaGreat
open Go.RowKit
open Go.Value renaming int→H,slice→M,bool→F
open Go.IntKind renaming i64→J
set_option maxRecDepth 100000
set_option maxHeartbeats 16000000
theorem formedB_ok {op mn mx mode n caps top:Int} {set:List (Int × Int)} {nk:Nat} {neg:Bool} (ht:top≤1114111) (h:formedB op set.length nk mn mx mode n neg caps (spansB set top)=true):NodeOK op set nk mn mx mode n neg:=by
 unfold formedB at h;simp only [Bool.and_eq_true,Bool.not_eq_true'] at h;obtain ⟨h1,h2,h3,h4,h5⟩:=h;simp only [f1B,Bool.or_eq_false_iff,Bool.and_eq_false_iff,decide_eq_false_iff_not] at h1;obtain ⟨a1,a2,a3,a4⟩:=h1;have hk:∀ x y:Int,kidsP op=(x,y)→x≤nk∧(y < 0∨(nk:Int)≤y):=fun x y e=> by
  rw [e] at a3 a4
  constructor <;> omega
 have hkv:(op=4∨op=5∨op=7∨op=8∨op=9→kidsP op=(1,1))∧(op=2∨op=3→kidsP op=(2,-1))∧(op=10→kidsP op=(2,2))∧(op=0∨op=1∨op=6∨op=11→kidsP op=(0,0)):=by
  refine ⟨fun h=> ?_,fun h=> ?_,fun h=> ?_,fun h=> ?_⟩
  ·rcases h with rfl | rfl | rfl | rfl | rfl <;> rfl
  ·rcases h with rfl | rfl <;> rfl
  ·subst h;rfl
  ·rcases h with rfl | rfl | rfl | rfl <;> rfl
 obtain ⟨v1,v2,v3,v4⟩:=hkv;have hs:(op=1→spansB set top=true)∧(op≠1→set=[]):=by
  by_cases o1:op=1
  ·refine ⟨fun _=> ?_,fun h=> absurd o1 h⟩;subst o1
   cases hq:spansB set top with
   | true=> rfl
   | false=> rw [hq] at h2;cases h2
  ·refine ⟨fun h=> absurd h o1,fun _=> ?_⟩;have e1:(op==1)=false:=by simpa using o1
   have e2:(op !=1)=true:=by simpa using o1
   rw [f2B,e1,e2] at h2
   have:decide (0 < set.length)=false:=h2
   simp only [decide_eq_false_iff_not] at this;exact List.eq_nil_of_length_eq_zero (by omega)
 have hr:op=4→f3B mn mx mode=false:=fun h=> by rw [if_pos h] at h3;exact h3
 have hn:op≠4→f4B mn mx mode=false:=fun h=> by rw [if_neg h] at h3;exact h3
 constructor
 ·omega
 ·intro h;have:=hk 1 1 (v1 h);omega
 ·intro h;have:=hk 2 (-1) (v2 h);omega
 ·intro h;have:=hk 2 2 (v3 h);omega
 ·intro h;have:=hk 0 0 (v4 h);omega
 ·intro h
  have:=hr h
  simp only [f3B,Bool.or_eq_false_iff,Bool.and_eq_false_iff,decide_eq_false_iff_not] at this;omega
 ·intro h
  have:=hn h
  simp only [f4B,Bool.or_eq_false_iff,decide_eq_false_iff_not] at this;omega
 ·intro h
  have:=hs.1 h
  unfold spansB at this;simp only [Bool.and_eq_true,decide_eq_true_eq] at this;exact ⟨spansGo_ok ht _ _ this.2,this.1⟩
 ·exact hs.2
 ·intro h;rw [f5B,if_pos h] at h4;simp only [Bool.or_eq_false_iff,decide_eq_false_iff_not] at h4;omega
 ·intro h;rw [f5B,if_neg (by omega),if_pos h] at h4;simp only [Bool.or_eq_false_iff,decide_eq_false_iff_not] at h4;omega
 ·intro h;rw [f5B,if_neg (by omega),if_neg (by omega)] at h4;simp only [decide_eq_false_iff_not] at h4;omega
 ·intro h;subst h;simp only [Bool.not_true,Bool.false_or,Bool.or_eq_true,beq_iff_eq] at h5;exact h5
def nodeB (caps top:Int) (t:Tree):Bool:=formedB t.op t.set.length t.kids.length t.mn t.mx t.mode t.n t.neg caps (spansB t.set top)
mutual
def wholeT (caps top:Int):Tree→Bool
 | .node op set kids mn mx mode n neg=> nodeB caps top (.node op set kids mn mx mode n neg) && wholeTs caps top kids
def wholeTs (caps top:Int):List Tree→Bool
 | []=> true
 | k::ks=> wholeT caps top k && wholeTs caps top ks
end
theorem wholeTs_iff (caps top:Int) (l:List Tree):wholeTs caps top l=l.all (wholeT caps top):=by
 induction l with
 | nil=> rfl
 | cons x r ih=> simp only [wholeTs,List.all_cons,ih]
theorem rwhole_any (caps top:Int) (ht:top≤2000000) (m:MRe):∀ (w:World),m.OK w→
  Calls Tryz.prog 76 #[m.val,H J caps,H J top] w fun e w'=> e=.returned (F (wholeT caps top m.tree))∧Keeps [] w w':=by
 induction m using MRe.induct with
 | h op sa sc set ka kc kids mn mx mode n neg ih=>
  intro w k1;have HF:=fun (W:World) (h:Keeps [] w W)=> rformed_any (.node op sa sc set ka kc kids mn mx mode n neg) caps top W (k1.keep h) ht;obtain ⟨f,hf⟩:∃ f,f=nodeB caps top (MRe.tree (.node op sa sc set ka kc kids mn mx mode n neg)):=⟨_,rfl⟩;replace HF:=gi (show ∀ W,Keeps [] w W→Calls Tryz.prog 110 #[.agg #[H J op,M sa set.length sc,M ka kids.length kc,H J mn,H J mx,H J mode,H J n,F neg],H J caps,H J top] W fun e w'=> e=.returned (F f)∧Keeps [] W w' from fun W h=> by rw [hf];exact HF W h);obtain ⟨R,hR0⟩:∃ R,R=wholeT caps top (MRe.tree (.node op sa sc set ka kc kids mn mx mode n neg)):=⟨_,rfl⟩;rw [←hR0];replace hR0:R=(f && (MRe.trees kids).all (wholeT caps top)):=by rw [hR0,hf,←wholeTs_iff];simp only [MRe.tree,wholeT]
  have HR0:=gi hR0;have HI:=gi (fun k (hk:k∈kids) W (h:Keeps [] w W)=> ih k hk W ((k1.kid hk).keep h));have HK:=gi k1.kids;have hle:=k1.nodes.le;have hcap:=k1.nodes.cap;unfold maxLen at hcap;simp only [MRe.val];obtain ⟨B,Y,c0,c1,c2,c3,c4,c5,c6,c7,HYE,HBE,KY⟩:=pre1 w op sa sc set ka kc kids mn mx mode n neg;clear ih k1 hR0 hf;go_enter Tryz.func76,Tryz.ntmps76
  go_upto_region 1 with fail
  rw [←HYE.o,←HBE.o];go_wp2_with fail
  refine Calls.mono (HF.o _ KY.o) ?_;rintro e w2 ⟨rfl,hk2⟩;have K2:=gi (KY.o.trans hk2);have d2:=hk2.c c2;clear hk2 c0 c1 c2 c3 c4 c5 c6 c7
  cases f with
  | false=>
   have HR:=gi (show R=false by rw [HR0.o];rfl);go_wp2;go_ret;exact ⟨by rw [HR.o];rfl,K2.o⟩
  | true=>
   have HR1:=gi (show R=(MRe.trees kids).all (wholeT caps top) by rw [HR0.o];rfl);go_wp2
   go_loopw [7] (fun i wr=> ∃ k:Nat,k≤kids.length∧i=H J k∧(∀ x∈(MRe.trees kids).take k,wholeT caps top x=true)∧Keeps [] w2 wr) (fun i _=> kids.length - (intOf i).toNat)
   case atStart=> exact ⟨0,Nat.zero_le _,rfl,by simp,Keeps.refl _ _⟩
   case round=>
    obtain ⟨k,hkk,rfl,hpk,hkp⟩:=hrel;have HP:=gi hpk;have HKP:=gi hkp;have y2:=hkp.c d2;clear hpk hkp d2
    by_cases hlt:k < kids.length
    ·obtain ⟨b,off,rfl,hb,hx⟩:=(HK.o.keep (K2.o.trans HKP.o)).nodes.kid (by omega);have hx0:=hx k hlt;have HC:=gi (HI.o kids[k] (List.getElem_mem hlt) wr (K2.o.trans HKP.o));have hlt':k < (MRe.trees kids).length:=by rw [MRe.trees_length];exact hlt
     have hn:=fun h=> take_succ_all (p:=wholeT caps top) hlt' HP.o h;have hf:=fun h=> all_false (p:=wholeT caps top) hlt' h;rw [trees_getElem kids k hlt] at hn hf;have HN:=gi hn;have HF2:=gi hf
     generalize kids[k]=m at *
     obtain ⟨q,hq⟩:∃ q,q=wholeT caps top m.tree:=⟨_,rfl⟩;rw [←hq] at HC HN HF2;obtain ⟨op1,sa1,sc1,set1,ka1,kc1,kids1,mn1,mx1,mode1,n1,neg1⟩:=m;have g:=hx0.node;obtain ⟨e0,e1,e2,e3,e4,e5,e6,e7⟩:=id g;simp only [MRe.val] at HC;clear g hx0 hx hq hn hf;go_wp2_with fail
     refine Calls.mono HC.o ?_;rintro e w3 ⟨rfl,hk3⟩;have K3:=gi (HKP.o.trans hk3);clear hk3
     cases q with
     | true=>
      have HN2:=gi (HN.o rfl);go_wp2;go_roundw
      case rel=> exact ⟨k + 1,by omega,by go_num,HN2.o,K3.o⟩
      case measure=> simp [intOf];omega
     | false=>
      have HF3:=gi (HF2.o rfl);go_wp2;go_ret;exact ⟨by rw [HR1.o,HF3.o];rfl,K2.o.trans K3.o⟩
    ·obtain rfl:k=kids.length:=by omega
     have h0:=all_true (p:=wholeT caps top) (l:=MRe.trees kids) (by rw [MRe.trees_length];exact HP.o);have H0:=gi h0;clear h0;go_wp2;go_ret;exact ⟨by rw [HR1.o,H0.o];rfl,K2.o.trans HKP.o⟩
def SomeBelow (n:Int) (w:World) (e:Ending) (w':World):Prop:=∃ k:Int,0≤k∧k < n∧e=.returned (H J k)∧w=w'
theorem pick_any (ao:Option Addr) (c:Nat) (xs:List Int) (i n:Int) (w:World) (hx:IntsIn w ao xs) (hl:xs.length≤9223372036854775807) (hb:∀ x∈xs,I64 x) (hn:0 < n):
  Calls Tryz.prog 58 #[M ao xs.length c,H J i,H J n] w (SomeBelow n w):=by
 by_cases h0:i < 0
 ·go_enter Tryz.func58,Tryz.ntmps58
  go_wp2;go_ret;exact ⟨0,by omega,hn,rfl,rfl⟩
 ·by_cases h1:i < xs.length
  ·obtain ⟨k,rfl⟩:∃ k:Nat,i=k:=⟨i.toNat,by omega⟩;obtain ⟨b,off,rfl,hc⟩:=hx (by omega);have hck:=hc k (by omega);have hk:I64 (xs.getD k 0):=by
    have hm:xs.getD k 0∈xs:=by
     rw [List.getD_eq_getElem?_getD,List.getElem?_eq_getElem (by omega),Option.getD_some];exact List.getElem_mem _
    exact hb _ hm
   generalize xs.getD k 0=x at *
   have HA:=around_any x n;have hbd:=aroundF_bd x n hn
   generalize aroundF x n=q at *
   have HB:=gi hbd;have HK:=gi hk;have HN:=gi hn;have HA:=gi HA;have hkn:k < xs.length:=by omega
   clear hx hc hb hbd hk;go_enter Tryz.func58,Tryz.ntmps58
   go_wp2_with fail
   refine Calls.mono (HA.o _ HN.o HK.o) ?_;rintro e w' ⟨rfl,rfl⟩;go_wp2;go_ret;exact ⟨q,HB.o.1,HB.o.2,rfl,rfl⟩
  ·go_enter Tryz.func58,Tryz.ntmps58
   go_wp2;go_ret;exact ⟨0,by omega,hn,rfl,rfl⟩
structure MakerAt (w:World) (g:Nat) (la:Option Addr) (lc:Nat) (zs:List Int) (uses:Int):Prop where
 ints:IntsIn w la zs
 len:zs.length≤9223372036854775807
 i64:∀ x∈zs,I64 x
 sep:0 < zs.length→∀ a,la=some a→a.block < w.heap.size∧a.block≠g
 row:∃ at' left caps:Int,0≤caps∧caps≤4∧w.heap[g]? =some (.cells #[M la zs.length lc,H J at',H J uses,H J left,H J caps] 99 (0,0))
theorem IntsIn.keepS {w w':World} {S:List Nat} {la:Option Addr} {zs:List Int} (h:IntsIn w la zs) (k:Keeps S w w') (hs:∀ a,la=some a→a.block ∉ S):IntsIn w' la zs:=fun h0=> by
 obtain ⟨b,off,rfl,hc⟩:=h h0;exact ⟨b,off,rfl,fun j hj=> k.cell (hc j hj) (hs ⟨b,off,none⟩ rfl)⟩
theorem IntsIn.keepN {w w':World} {S:List Nat} {la:Option Addr} {zs:List Int} (h:IntsIn w la zs) (k:Keeps S w w') (hs:0 < zs.length→∀ a,la=some a→a.block ∉ S):IntsIn w' la zs:=fun h0=> by
 obtain ⟨b,off,rfl,hc⟩:=h h0;exact ⟨b,off,rfl,fun j hj=> k.cell (hc j hj) (hs h0 ⟨b,off,none⟩ rfl)⟩
theorem IntsIn.lt {w:World} {la:Option Addr} {zs:List Int} (h:IntsIn w la zs) (h0:0 < zs.length):∀ a,la=some a→a.block < w.heap.size:=fun a ha=> by
 obtain ⟨b,off,rfl,hc⟩:=h h0
 cases ha
 exact World.block_lt_of_cell? _ _ (hc 0 h0)
theorem MakerAt.keep {w w':World} {g:Nat} {la lc zs uses} (h:MakerAt w g la lc zs uses) (k:Keeps [] w w'):MakerAt w' g la lc zs uses:=by
 obtain ⟨a,l,c,h0,h1,hr⟩:=h.row;exact ⟨h.ints.keepS k (fun _ _=> by simp),h.len,h.i64,fun h0 a ha=> ⟨Nat.lt_of_lt_of_le (h.sep h0 a ha).1 k.size,(h.sep h0 a ha).2⟩,a,l,c,h0,h1,k.h hr⟩
theorem MakerAt.put {w w':World} {g:Nat} {la lc zs uses} (h:MakerAt w g la lc zs uses) (k:Keeps [g] w w') {a l c:Int} (h0:0≤c) (h1:c≤4)
  (hr:w'.heap[g]? =some (.cells #[M la zs.length lc,H J a,H J uses,H J l,H J c] 99 (0,0))):MakerAt w' g la lc zs uses:=
 ⟨h.ints.keepN k (fun h0 a ha=> by have:=(h.sep h0 a ha).2;simpa using this),h.len,h.i64,fun h0 a ha=> ⟨Nat.lt_of_lt_of_le (h.sep h0 a ha).1 k.size,(h.sep h0 a ha).2⟩,a,l,c,h0,h1,hr⟩
theorem row5_cells {w:World} {g T:Nat} {a b c d e:Value} (h:w.heap[g]? =some (.cells #[a,b,c,d,e] T (0,0))):
  w.cell? ⟨g,0,none⟩=some a∧w.cell? ⟨g,1,none⟩=some b∧w.cell? ⟨g,2,none⟩=some c∧w.cell? ⟨g,3,none⟩=some d∧w.cell? ⟨g,4,none⟩=some e∧(∀ i,w.frozen? ⟨g,i,none⟩=false):=by
 refine ⟨?_,?_,?_,?_,?_,fun i=> ?_⟩ <;> simp [World.cell?,World.frozen?,h]
def NextPost (w:World) (g:Nat) (la:Option Addr) (lc:Nat) (zs:List Int) (uses n:Int) (e:Ending) (w':World):Prop:=
 ∃ k:Int,0≤k∧k < n∧e=.returned (H J k)∧MakerAt w' g la lc zs uses∧Keeps [g] w w'∧∀ v,w.cell? ⟨g,4,none⟩=some v→w'.cell? ⟨g,4,none⟩=some v
theorem next_any {w:World} {g:Nat} {la lc zs uses} (h:MakerAt w g la lc zs uses) (n:Int) (hn:0 < n):
  Calls Tryz.prog 105 #[.pointer (some ⟨g,0,none⟩),H J n] w (NextPost w g la lc zs uses n):=by
 obtain ⟨a,l,c,h0,h1,hr⟩:=h.row;obtain ⟨c0,c1,c2,c3,c4,cf⟩:=row5_cells hr;have HR:=gi hr;have HM:=gi h;have H0:=gi h0;have H1:=gi h1;have HN:=gi hn;clear h h0 h1 hr hn;go_enter Tryz.func105,Tryz.ntmps105
 go_upto_region 2 with fail
 obtain ⟨a1,ha1⟩:∃ a1,a1=wrap64 (a + 1):=⟨_,rfl⟩;rw [←ha1];obtain ⟨V,hVe⟩:∃ V,V=w.setCell ⟨g,1,none⟩ (H J a1):=⟨_,rfl⟩;rw [←hVe];have hkV:Keeps [g] w V:=by rw [hVe];exact (Keeps.refl [g] w).setCell (p:=⟨g,1,none⟩) (.inl (by simp)) _
 have hrV:V.heap[g]? =some (.cells #[M la zs.length lc,H J a1,H J uses,H J l,H J c] 99 (0,0)):=by rw [hVe];exact heap_setCell_same _ g 1 _ _ _ HR.o
 have HMV:=gi (HM.o.put hkV H0.o H1.o hrV);have HKV:=gi hkV;have HC4:=gi c4;clear c0 c1 c2 c3 c4 cf ha1 hVe hkV;obtain ⟨c0,c1,c2,c3,c4,cf⟩:=row5_cells hrV;have HV4:=gi c4;have HI:=gi (fun (W:World) (k:Keeps [] V W) (i:Int)=> pick_any la lc zs i n W (HMV.o.keep k).ints HMV.o.len HMV.o.i64 HN.o);clear hrV;refine rg (S:=fun w'=> w'.cell? ⟨g,0,none⟩=some (M la zs.length lc)∧w'.cell? ⟨g,1,none⟩=some (H J a1)) (fun _ k=> ⟨k.c c0,k.c c1⟩) fun kz hHeld=> ?_;refine tk 0 ?_;refine tk 1 ?_;refine tk 2 ?_;refine tk 3 ?_;refine tk 4 ?_;refine tk 5 ?_;refine tk 6 ?_;refine tk 7 ?_;refine tk 8 ?_;refine tk 9 ?_;refine j6 10 fun K hK=> ?_;go_simp;refine Calls.mono (HI.o _ (Keeps.refl [] V).drew _) ?_;rintro e w2 ⟨k,hk0,hkn,rfl,rfl⟩;have HB0:=gi hk0;have HBN:=gi hkn;clear hk0 hkn;refine hK.out _ _ (⟨c0,c1⟩) (fun hHeld=> ?_);clear hK K;try go_frame
 refine tk 11 ?_;refine wd ?_;clear c0 c1 c2 c3 c4 cf hHeld;go_wp2;go_ret;refine ⟨k,HB0.o,HBN.o,rfl,HMV.o.keep (Keeps.refl [] V).drew,HKV.o.drew,fun v hv=> ?_⟩;have h4:=HC4.o;rw [hv] at h4
 cases h4
 exact HV4.o
def GenPost (w:World) (g:Nat) (la:Option Addr) (lc:Nat) (zs:List Int) (uses:Int) (bd:Nat) (e:Ending) (w':World):Prop:=
 ∃ m:MRe,e=.returned m.val∧m.OK w'∧MakerAt w' g la lc zs uses∧Keeps [g] w w'∧Fresh w.heap.size m.blocks∧m.tree.WF∧m.tree.bulk≤bd
theorem allocs_get {w W:World} {l:List Obj} (h:W.heap.toList=w.heap.toList ++ l) (i:Nat):W.heap[w.heap.size + i]? =l[i]?:=by
 rw [←Array.getElem?_toList,h,List.getElem?_append_right (by simp)]
 simp
theorem MakerAt.lt {w:World} {g:Nat} {la lc zs uses} (h:MakerAt w g la lc zs uses):g < w.heap.size:=by
 obtain ⟨_,_,_,_,_,hr⟩:=h.row;exact lt_of_block hr
theorem MakerAt.keepB {w V V':World} {g B:Nat} {la lc zs uses} (h0:MakerAt w g la lc zs uses) (h:MakerAt V g la lc zs uses) (hB:w.heap.size≤B) (k:Keeps [B] V V'):MakerAt V' g la lc zs uses:=by
 obtain ⟨a,l,c,h1,h2,hr⟩:=h.row;have hg:=h0.lt;exact ⟨h.ints.keepN k (fun hp a ha=> by have:=(h0.sep hp a ha).1;simp;omega),h.len,h.i64,fun hp a ha=> ⟨Nat.lt_of_lt_of_le (h.sep hp a ha).1 k.size,(h.sep hp a ha).2⟩,a,l,c,h1,h2,k.heap hr (by simp;omega)⟩
theorem gen_store {w V:World} {g B T:Nat} {la lc zs uses} {op sa sc set ka kc kids mn mx mode n neg} (h0:MakerAt w g la lc zs uses) (hm:MakerAt V g la lc zs uses) (hk:Keeps [g] w V) (hB:w.heap.size≤B)
  (hz:V.heap[B]? =some (.cells #[H J 0,M none 0 0,M none 0 0,H J 0,H J 0,H J 0,H J 0,F false] T (0,0))) (ok:MRe.OK V (.node op sa sc set ka kc kids mn mx mode n neg)) (hfr:∀ b∈(MRe.blocks (.node op sa sc set ka kc kids mn mx mode n neg)),w.heap.size≤b∧b≠B):
  (set8 V B (H J op) (M sa set.length sc) (M ka kids.length kc) (H J mn) (H J mx) (H J mode) (H J n) (F neg)).heap[B]? =some (.cells #[H J op,M sa set.length sc,M ka kids.length kc,H J mn,H J mx,H J mode,H J n,F neg] T (0,0))∧
  MRe.OK (set8 V B (H J op) (M sa set.length sc) (M ka kids.length kc) (H J mn) (H J mx) (H J mode) (H J n) (F neg)) (.node op sa sc set ka kc kids mn mx mode n neg)∧
  MakerAt (set8 V B (H J op) (M sa set.length sc) (M ka kids.length kc) (H J mn) (H J mx) (H J mode) (H J n) (F neg)) g la lc zs uses∧
  Keeps [g] w (set8 V B (H J op) (M sa set.length sc) (M ka kids.length kc) (H J mn) (H J mx) (H J mode) (H J n) (F neg))∧
  Fresh w.heap.size (MRe.blocks (.node op sa sc set ka kc kids mn mx mode n neg)):=by
 have hk8:=set8_keeps V B (H J op) (M sa set.length sc) (M ka kids.length kc) (H J mn) (H J mx) (H J mode) (H J n) (F neg);exact ⟨set8_heap hz _ _ _ _ _ _ _ _,ok.keepS hk8 fun b hb=> by have:=(hfr b hb).2;simp;omega,h0.keepB hm hB hk8,hk.after hk8 (by intro x hx;simp at hx;subst hx;exact .inr hB),fun b hb=> (hfr b hb).1⟩
def setRow:List Obj:=[.cells #[H J 0,M none 0 0,M none 0 0,H J 0,H J 0,H J 0,H J 0,F false] 26,
 .cells #[H J 97,H J 97] 86,.cells #[H J 98,H J 98] 86,.cells #[H J 97,H J 98] 86,.cells #[H J 99,H J 99] 86,.cells #[H J 97,H J 99] 86,
 .cells #[H J 0,H J 96,H J 98,H J 255] 86,.cells #[H J 10,H J 10,H J 97,H J 97] 86,.cells #[] 86]
def setOuter (B:Nat):Obj:=.cells #[M (some ⟨B + 1,0,none⟩) 1 1,M (some ⟨B + 2,0,none⟩) 1 1,M (some ⟨B + 3,0,none⟩) 1 1,M (some ⟨B + 4,0,none⟩) 1 1,M (some ⟨B + 5,0,none⟩) 1 1,M (some ⟨B + 6,0,none⟩) 2 2,M (some ⟨B + 7,0,none⟩) 2 2,M (some ⟨B + 8,0,none⟩) 0 0] 23
theorem set_case {w W V:World} {g:Nat} (hg:g < w.heap.size) (h:W.heap.toList=w.heap.toList ++ (setRow ++ [setOuter w.heap.size])) (hk:Keeps [g] W V) (q:Nat) (hq:q < 8):
  ∃ sa set sc,V.cell? ⟨w.heap.size + 9,q,none⟩=some (M sa set.length sc)∧SpansIn V sa sc set∧SpansOK set∧set.length≤2∧∀ b∈blockIf set.length sa,w.heap.size < b:=by
 have hh:∀ i o,(setRow ++ [setOuter w.heap.size])[i]? =some o→V.heap[w.heap.size + i]? =some o:=fun i o ho=> hk.heap (by rw [allocs_get h,ho]) (by simp;omega);have h9:V.heap[w.heap.size + 9]? =some (setOuter w.heap.size):=hh 9 _ rfl;have hc:∀ v,(match setOuter w.heap.size with | .cells cs _ _=> cs[q]? | _=> none)=some v→V.cell? ⟨w.heap.size + 9,q,none⟩=some v:=fun v hv=> by
  simp only [World.cell?,h9];exact hv
 obtain rfl | rfl | rfl | rfl | rfl | rfl | rfl | rfl:q=0∨q=1∨q=2∨q=3∨q=4∨q=5∨q=6∨q=7:=by omega
 ·exact ⟨_,[(97,97)],1,hc _ rfl,SpansIn.of_block (set:=[(97,97)]) (hh 1 _ rfl) rfl (by simp [maxLen]),by simp [SpansOK],by simp,by simp [blockIf]⟩
 ·exact ⟨_,[(98,98)],1,hc _ rfl,SpansIn.of_block (set:=[(98,98)]) (hh 2 _ rfl) rfl (by simp [maxLen]),by simp [SpansOK],by simp,by simp [blockIf]⟩
 ·exact ⟨_,[(97,98)],1,hc _ rfl,SpansIn.of_block (set:=[(97,98)]) (hh 3 _ rfl) rfl (by simp [maxLen]),by simp [SpansOK],by simp,by simp [blockIf]⟩
 ·exact ⟨_,[(99,99)],1,hc _ rfl,SpansIn.of_block (set:=[(99,99)]) (hh 4 _ rfl) rfl (by simp [maxLen]),by simp [SpansOK],by simp,by simp [blockIf]⟩
 ·exact ⟨_,[(97,99)],1,hc _ rfl,SpansIn.of_block (set:=[(97,99)]) (hh 5 _ rfl) rfl (by simp [maxLen]),by simp [SpansOK],by simp,by simp [blockIf]⟩
 ·exact ⟨_,[(0,96),(98,255)],2,hc _ rfl,SpansIn.of_block (set:=[(0,96),(98,255)]) (hh 6 _ rfl) rfl (by simp [maxLen]),by simp [SpansOK],by simp,by simp [blockIf]⟩
 ·exact ⟨_,[(10,10),(97,97)],2,hc _ rfl,SpansIn.of_block (set:=[(10,10),(97,97)]) (hh 7 _ rfl) rfl (by simp [maxLen]),by simp [SpansOK],by simp,by simp [blockIf]⟩
 ·exact ⟨_,[],0,hc _ rfl,SpansIn.of_block (set:=[]) (hh 8 _ rfl) rfl (by simp [maxLen]),by simp [SpansOK],by simp,by simp [blockIf]⟩
theorem leaf_wf {op:Int} {set:List (Int × Int)} {n:Int} (h:NodeOK op set 0 0 0 0 n false):Tree.WF (.node op set [] 0 0 0 n false):=.mk h (by simp)
theorem letter_ok {set:List (Int × Int)} (h:SpansOK set) (hl:set.length≤64):NodeOK 1 set 0 0 0 0 0 false:=by
 constructor <;> first | omega | (intro h;omega) | (intro _;exact ⟨h,hl⟩) | simp
theorem set_any {w:World} {g:Nat} {la lc zs uses} (h:MakerAt w g la lc zs uses):
  Calls Tryz.prog 106 #[.pointer (some ⟨g,0,none⟩)] w (GenPost w g la lc zs uses 3):=by
 have HM:=gi h;clear h;go_enter Tryz.func106,Tryz.ntmps106
 go_wp2_with fail
 obtain ⟨W,hWe⟩:∃ W:World,W=((((((((((w.alloc (.cells #[H J 0,M none 0 0,M none 0 0,H J 0,H J 0,H J 0,H J 0,F false] 26)).alloc (.cells #[H J 97,H J 97] 86)).alloc (.cells #[H J 98,H J 98] 86)).alloc (.cells #[H J 97,H J 98] 86)).alloc (.cells #[H J 99,H J 99] 86)).alloc (.cells #[H J 97,H J 99] 86)).alloc
  (.cells #[H J 0,H J 96,H J 98,H J 255] 86)).alloc (.cells #[H J 10,H J 10,H J 97,H J 97] 86)).alloc (.cells #[] 86)).alloc (setOuter w.heap.size)):=⟨_,rfl⟩
 have hl:W.heap.toList=w.heap.toList ++ (setRow ++ [setOuter w.heap.size]):=by
  have e:∀ (w:World) (o:Obj),(w.alloc o).heap.toList=w.heap.toList ++ [o]:=fun w o=> by show (w.heap.push o).toList=_;simp
  rw [hWe,e,e,e,e,e,e,e,e,e,e];simp [setRow]
 have hkW:Keeps [] w W:=by rw [hWe];exact (Keeps.a4 _ _ _ _ _).trans ((Keeps.a4 _ _ _ _ _).trans (Keeps.a2 _ _ _))
 have hz:W.heap[w.heap.size]? =some (.cells #[H J 0,M none 0 0,M none 0 0,H J 0,H J 0,H J 0,H J 0,F false] 26 (0,0)):=by have:=allocs_get hl 0;rw [Nat.add_zero] at this;rw [this];rfl
 have HL:=gi hl;have HKW:=gi hkW;have HZ:=gi hz;have HWE:=gi hWe;clear hl hkW hz;simp only [setOuter] at hWe;simp only [Nat.add_assoc,Nat.reduceAdd];rw [←hWe];obtain ⟨B,hBe⟩:∃ B,B=w.heap.size:=⟨_,rfl⟩;rw [←hBe];have HBE:=gi hBe;clear hWe hBe;refine Calls.mono (next_any (HM.o.keep HKW.o) 15 (by omega)) ?_;rintro e w2 ⟨k,hk0,hk1,rfl,hm,hk,_⟩;obtain ⟨q,hq⟩:∃ q:Nat,k / 2=(q:Int):=⟨(k / 2).toNat,by omega⟩;have hq8:q < 8:=by omega
 obtain ⟨sa,set,sc,hc,hin,hok,hlen,hfr⟩:=set_case HM.o.lt HL.o hk q hq8;rw [←HBE.o] at hc hfr;have hz2:=hk.heap HZ.o (by have:=HM.o.lt;simp;omega);rw [←HBE.o] at hz2;obtain ⟨z0,z1,z2,z3,z4,z5,z6,z7,zf⟩:=zero_cells hz2;have HZ2:=gi hz2;have HM2:=gi hm;have HK2:=gi ((HKW.o.mono (S':=[g]) (by simp)).trans hk);have HIN:=gi hin;have HOK:=gi hok;have HLN:=gi hlen;have HFR:=gi hfr;have hqI:(q:Int) < 8:=by omega
 have hq0:(0:Int)≤(q:Int):=by omega
 clear hm hk hin hok hlen hfr hz2;go_wp2_with fail
 obtain ⟨hR,hok,hm,hk,hfr⟩:=gen_store (op:=1) (set:=set) (sa:=sa) (sc:=sc) (ka:=none) (kc:=0) (kids:=[]) (mn:=0) (mx:=0) (mode:=0) (n:=0) (neg:=false) HM.o HM2.o HK2.o (Nat.le_of_eq HBE.o.symm) HZ2.o (.of HIN.o (KidsIn.nil _)) (fun b hb=> by
  have hb:b∈blockIf set.length sa:=by simpa [MRe.blocks,MRe.blocksL,blockIf] using hb
  have:=HFR.o b hb
  have:=HBE.o
  omega)
 refine rc hR ?_;exact ⟨_,rfl,hok,hm,hk,hfr,leaf_wf (letter_ok HOK.o (by have:=HLN.o;omega)),by have:=HLN.o;show 1 + set.length + 0≤3;omega⟩
def TreeGen (d:Nat) (bd:Nat):Prop:=∀ (w:World) (g:Nat) (la:Option Addr) (lc:Nat) (zs:List Int) (uses:Int),MakerAt w g la lc zs uses→
 Calls Tryz.prog 73 #[.pointer (some ⟨g,0,none⟩),H J (d:Int)] w (GenPost w g la lc zs uses bd)
def KidsPost (w:World) (g:Nat) (la:Option Addr) (lc:Nat) (zs:List Int) (uses:Int) (bd:Nat) (e:Ending) (w':World):Prop:=
 ∃ (a:Option Nat) (c:Nat) (ks:List MRe),e=.returned (sv a ks.length c)∧2≤ks.length∧ks.length≤3∧KidsIn w' (a.map fun x=> ⟨x,0,none⟩) c ks∧MakerAt w' g la lc zs uses∧Keeps [g] w w'∧
  (∀ x,a=some x→w.heap.size≤x)∧∀ x∈ks,x.tree.WF∧x.tree.bulk≤bd∧∀ b∈x.blocks,w.heap.size≤b
theorem MakerAt.keepF {w V V':World} {g:Nat} {S:List Nat} {la lc zs uses} (h0:MakerAt w g la lc zs uses) (h:MakerAt V g la lc zs uses) (hB:∀ x∈S,w.heap.size≤x) (k:Keeps S V V'):MakerAt V' g la lc zs uses:=by
 obtain ⟨a,l,c,h1,h2,hr⟩:=h.row;have hg:=h0.lt;exact ⟨h.ints.keepN k (fun hp a ha hm=> by have:=(h0.sep hp a ha).1;have:=hB _ hm;omega),h.len,h.i64,fun hp a ha=> ⟨Nat.lt_of_lt_of_le (h.sep hp a ha).1 k.size,(h.sep hp a ha).2⟩,a,l,c,h1,h2,k.heap hr (fun hm=> by have:=hB _ hm;omega)⟩
theorem kidsgen_any {d bd:Nat} (TH:TreeGen d bd) (hd:d≤100) {w:World} {g:Nat} {la lc zs uses} (h:MakerAt w g la lc zs uses):
  Calls Tryz.prog 107 #[.pointer (some ⟨g,0,none⟩),H J ((d:Int) + 1)] w (KidsPost w g la lc zs uses bd):=by
 obtain ⟨i0,hi,hz0,hz1,hz2⟩:=info_parts infoRe;have Hi:=gi hi;have Hz0:=gi hz0;have Hz1:=gi hz1;have Hz2:=gi hz2;have HM:=gi h;have HTH:=gi TH;have HGL:=gi h.lt;clear hi hz0 hz1 hz2 h TH;go_enter Tryz.func107,Tryz.ntmps107
 go_wp2
 go_loopw [5,6] (fun v i wr=> ∃ (k:Nat) (a:Option Nat) (c:Nat) (ks:List MRe),k≤3∧i=H J k∧v=sv a k c∧ks.length=k∧SliceAt wr 26 8 a k c (flatK ks)∧
   (∀ x∈ks,x.OK wr∧(∀ b∈x.blocks,w.heap.size≤b∧a≠some b)∧x.tree.WF∧x.tree.bulk≤bd)∧(∀ x,a=some x→w.heap.size≤x)∧MakerAt wr g la lc zs uses∧Keeps [g] w wr) (fun _ i _=> 3 - (intOf i).toNat)
 case atStart=> exact ⟨0,none,0,[],by omega,rfl,rfl,rfl,SliceAt.nil _ _ _,by simp,by simp,HM.o,Keeps.refl _ _⟩
 case round=>
  obtain ⟨k,a,c,ks,hk3,rfl,rfl,hkl,hsl,hks,hag,hm,hkp⟩:=hrel;have HSL:=gi hsl;have HKS:=gi hks;have HAG:=gi hag;have HMR:=gi hm;have HKP:=gi hkp;have HKL:=gi hkl;obtain ⟨wo,hwo⟩:∃ wo,wo=wr:=⟨_,rfl⟩;clear hsl hks hag hm hkp hkl;go_wp2_with fail
  refine Calls.mono (next_any HMR.o 2 (by omega)) ?_;rintro e w2 ⟨x,hx0,hx1,rfl,hm2,hk2,_⟩;have HM2:=gi hm2;have HK2:=gi hk2;clear hm2 hk2
  by_cases hlt:(k:Int) < 2 + x
  ·go_wp2_with fail
   refine Calls.mono (HTH.o w2 g la lc zs uses HM2.o) ?_;rintro e w5 ⟨m',rfl,ho5,hm5,hk5,hf5,hwf,hbd⟩;have HO5:=gi ho5;have HM5:=gi hm5;have HK5:=gi (show Keeps [g] wr w5 from HK2.o.trans hk5);have HF5:=gi (show ∀ b∈m'.blocks,wr.heap.size≤b from fun b hb=> Nat.le_trans HK2.o.size (hf5 b hb));have HWF:=gi hwf;have HBD:=gi hbd;have hone:=flatK_one [m'];rw [show flatK [m']=m'.row by simp [flatK]] at hone;obtain ⟨m0,hm0⟩:∃ m0,m0=m':=⟨_,rfl⟩;rw [←hm0] at HO5 HF5 HWF HBD;have HM0:=gi hm0;obtain ⟨op2,sa2,sc2,set2,ka2,kc2,kids2,mn2,mx2,mode2,n2,neg2⟩:=m';simp only [MRe.row] at hone;simp only [MRe.val];have HONE:=gi hone;clear ho5 hm5 hk5 hf5 hwf hbd hm0 hone;have hga:g ∉ a.toList:=fun h=> by
    have:=HAG.o g (by simpa using h)
    have:=HGL.o
    omega
   have HSL5:=gi (HSL.o.keep HK5.o (by
    intro x hx h;simp at h;subst h
    have:=HAG.o _ hx
    have:=HGL.o
    omega))
   go_wp2_with (at_builtin;refine wpList_append_sl rfl (.tmp 14) (.tmp 19) 24 rfl 26 i0 _ 8 96 Tryz.underlying24 Hi.o Hz0.o Hz1.o Hz2.o rfl (by decide) a k c _ rfl (HSL5.o.alloc _) ⟨w5.heap.size,0,none⟩ 1 1 [H J op2,M sa2 set2.length sc2,M ka2 kids2.length kc2,H J mn2,H J mx2,H J mode2,H J n2,F neg2] rfl rfl (news_row' _ _ _ _ rfl) HONE.o (by decide) (by omega) (by omega) ?hk)
   case hk=>
    intro g6 c6 w6 hsl6 hk6 hg6;have kA:Keeps [g] wr (w5.alloc (.cells #[H J op2,M sa2 set2.length sc2,M ka2 kids2.length kc2,H J mn2,H J mx2,H J mode2,H J n2,F neg2] 26)):=HK5.o.alloc _;have hal:∀ y,a=some y→y < wr.heap.size:=fun y hy=> by subst hy;exact HSL.o.lt
    have hag:=HAG.o;have hgl:=HGL.o;have hs5:=HK5.o.size;have hsw:=HKP.o.size;have hg7:a=some g6∨w5.heap.size + 1≤g6:=by
     rcases hg6 with h | h
     ·exact .inl h
     ·right;simpa using h
    have hel:∀ x∈ks ++ [m0],x.OK w6∧(∀ b∈x.blocks,w.heap.size≤b∧some g6≠some b)∧x.tree.WF∧x.tree.bulk≤bd:=by
     intro x hx
     rcases List.mem_append.1 hx with hx | hx
     ·obtain ⟨h1,h2,h3,h4⟩:=HKS.o x hx;refine ⟨(h1.keepS kA fun b hb h=> ?_).keepS hk6 fun b hb h=> (h2 b hb).2 (by simpa using h),fun b hb=> ⟨(h2 b hb).1,fun h=> ?_⟩,h3,h4⟩
      ·have:=(h2 b hb).1
       simp at h;omega
      ·have h5:=h1.block_lt b hb
       rcases hg7 with h7 | h7
       ·exact (h2 b hb).2 (by rw [h7,h])
       ·cases h;omega
     ·simp at hx;subst hx;refine ⟨(HO5.o.keep (Keeps.a1 w5 _)).keepS hk6 fun b hb h=> ?_,fun b hb=> ?_,HWF.o,HBD.o⟩
      ·have h3:=HF5.o b hb;have h4:=hal b (by simpa using h);omega
      ·have h3:=HF5.o b hb;have h4:=HO5.o.block_lt b hb;refine ⟨by omega,fun h=> ?_⟩
       cases h
       rcases hg7 with h7 | h7
       ·have:=hal _ h7;omega
       ·omega
    have hag6:∀ z,some g6=some z→w.heap.size≤z:=by
     intro z hz
     cases hz
     rcases hg7 with h7 | h7
     ·exact hag _ h7
     ·omega
    have hm6:=HM.o.keepF (HM5.o.keep (Keeps.a1 w5 (.cells #[H J op2,M sa2 set2.length sc2,M ka2 kids2.length kc2,H J mn2,H J mx2,H J mode2,H J n2,F neg2] 26))) (fun x hx=> hag x (by simpa using hx)) hk6;have hk6':=(HKP.o.trans kA).after hk6 (fun x hx=> .inr (hag x (by simpa using hx)));have hfl:flatK (ks ++ [m0])=flatK ks ++ [H J op2,M sa2 set2.length sc2,M ka2 kids2.length kc2,H J mn2,H J mx2,H J mode2,H J n2,F neg2]:=by rw [flatK_append,HM0.o];simp [flatK,MRe.row]
    rw [←hfl] at hsl6;have HSL6:=gi hsl6;have HEL:=gi hel;have HAG6:=gi hag6;have HM6:=gi hm6;have HK6:=gi hk6';clear kA hal hag hgl hs5 hsw hg7 hel hag6 hm6 hk6 hk6' hfl hsl6 hg6;have hk2:k≤2:=by omega
    go_wp2;go_roundw
    case rel=> exact ⟨k + 1,some g6,c6,ks ++ [m0],by omega,by go_num,rfl,by simp [HKL.o],HSL6.o,HEL.o,HAG6.o,HM6.o,HK6.o⟩
    case measure=> simp [intOf];omega
  ·have hk2:2≤k:=by omega
   go_wp2;go_ret;have hkl:=HKL.o;subst hkl;have hag:=HAG.o;have hgl:=HGL.o;refine ⟨a,c,ks,rfl,hk2,hk3,⟨NodesIn.of_sl (HSL.o.keep HK2.o (fun x hx h=> ?_)),fun x hx=> (HKS.o x hx).1.keepS HK2.o fun b hb h=> ?_⟩,HM2.o,HKP.o.trans HK2.o,hag,fun x hx=> ⟨(HKS.o x hx).2.2.1,(HKS.o x hx).2.2.2,fun b hb=> ((HKS.o x hx).2.1 b hb).1⟩⟩
   ·simp at h;subst h
    have:=hag _ hx
    omega
   ·have:=((HKS.o x hx).2.1 b hb).1
    simp at h;omega
end Go.Proofs.YtjnlkjlbejelgaaGreat
