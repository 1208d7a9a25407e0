/- Part 3 of the proof. No condition: every lemma says its own. -/
import Derived.Laws.Tables
import Derived.Test.YtjnlkjlbejelgaaGreatLaa
import Derived.Test.YtjnlkjlbejelgaaGreatLab
namespace Go.Proofs.YtjnlkjlbejelgaaGreat
open Go.RowKit
open Go.Value renaming int→H,slice→M,bool→F
open Go.IntKind renaming i64→J
set_option maxRecDepth 100000
set_option maxHeartbeats 16000000
def blockIf (n:Nat) (a:Option Addr):List Nat:=if n=0 then [] else a.toList.map Addr.block
mutual
def MRe.blocks:MRe→List Nat
 | .node _ sa _ set ka _ kids _ _ _ _ _=> blockIf set.length sa ++ (blockIf kids.length ka ++ MRe.blocksL kids)
def MRe.blocksL:List MRe→List Nat
 | []=> []
 | k::ks=> k.blocks ++ MRe.blocksL ks
end
theorem MRe.blocksL_eq (l:List MRe):MRe.blocksL l=l.flatMap MRe.blocks:=by
 induction l with
 | nil=> rfl
 | cons k ks ih=> simp [MRe.blocksL,ih]
theorem MRe.mem_blocksL {l:List MRe} {k:MRe} {b:Nat} (hk:k∈l) (hb:b∈k.blocks):b∈MRe.blocksL l:=by
 rw [MRe.blocksL_eq];exact List.mem_flatMap.2 ⟨k,hk,hb⟩
theorem MRe.blocksL_mem {l:List MRe} {b:Nat} (h:b∈MRe.blocksL l):∃ k∈l,b∈k.blocks:=by
 rw [MRe.blocksL_eq] at h;exact List.mem_flatMap.1 h
theorem SpansIn.keepS {S:List Nat} {w w':World} {sa:Option Addr} {sc:Nat} {set:List (Int × Int)} (h:SpansIn w sa sc set) (k:Keeps S w w') (hs:∀ b∈blockIf set.length sa,b ∉ S):SpansIn w' sa sc set:=
 ⟨h.le,h.cap,h.nil_,fun h0=> by
  obtain ⟨b,off,h1,hb,h2⟩:=h.at_ h0;refine ⟨b,off,h1,Nat.lt_of_lt_of_le hb k.size,fun i hi=> ?_⟩
  have:b ∉ S:=hs b (by unfold blockIf;rw [if_neg (by omega),h1];simp)
  exact ⟨k.cell (h2 i hi).1 this,k.cell (h2 i hi).2 this⟩⟩
theorem NodesIn.keepS {S:List Nat} {w w':World} {ka:Option Addr} {kc:Nat} {kids:List MRe} (h:NodesIn w ka kc kids) (k:Keeps S w w') (hs:∀ b∈blockIf kids.length ka,b ∉ S):NodesIn w' ka kc kids:=
 ⟨h.le,h.cap,h.nil_,fun h0=> by
  obtain ⟨b,off,h1,hb,h2⟩:=h.at_ h0;refine ⟨b,off,h1,Nat.lt_of_lt_of_le hb k.size,fun i hi j hj=> ?_⟩
  have:b ∉ S:=hs b (by unfold blockIf;rw [if_neg (by omega),h1];simp)
  exact k.cell (h2 i hi j hj) this⟩
theorem MRe.OK.keepS {S:List Nat} {w w':World} (k:Keeps S w w') {m:MRe} (h:m.OK w) (hs:∀ b∈m.blocks,b ∉ S):m.OK w':=by
 induction h with
 | mk hsp hk _ ih=>
  simp only [MRe.blocks,List.mem_append] at hs;exact .mk (hsp.keepS k fun b hb=> hs b (.inl hb)) (hk.keepS k fun b hb=> hs b (.inr (.inl hb))) fun x hx=> ih x hx fun b hb=> hs b (.inr (.inr (MRe.mem_blocksL hx hb)))
theorem KidsIn.keepS {S:List Nat} {w w':World} {ka:Option Addr} {kc:Nat} {kids:List MRe} (h:KidsIn w ka kc kids) (k:Keeps S w w') (hs:∀ b∈blockIf kids.length ka ++ MRe.blocksL kids,b ∉ S):KidsIn w' ka kc kids:=
 ⟨h.nodes.keepS k fun b hb=> hs b (List.mem_append_left _ hb),fun x hx=> (h.all x hx).keepS k fun b hb=> hs b (List.mem_append_right _ (MRe.mem_blocksL hx hb))⟩
theorem SpansIn.block_lt {w:World} {sa:Option Addr} {sc:Nat} {set:List (Int × Int)} (h:SpansIn w sa sc set):∀ b∈blockIf set.length sa,b < w.heap.size:=by
 intro b hb;unfold blockIf at hb
 split at hb
 ·simp at hb
 ·obtain ⟨b',off,h1,h2,_⟩:=h.at_ (by have:=h.le;omega);rw [h1] at hb;simp at hb;omega
theorem NodesIn.block_lt {w:World} {ka:Option Addr} {kc:Nat} {kids:List MRe} (h:NodesIn w ka kc kids):∀ b∈blockIf kids.length ka,b < w.heap.size:=by
 intro b hb;unfold blockIf at hb
 split at hb
 ·simp at hb
 ·obtain ⟨b',off,h1,h2,_⟩:=h.at_ (by have:=h.le;omega);rw [h1] at hb;simp at hb;omega
theorem MRe.OK.block_lt {w:World} {m:MRe} (h:m.OK w):∀ b∈m.blocks,b < w.heap.size:=by
 induction h with
 | mk hsp hk _ ih=>
  intro b hb;simp only [MRe.blocks,List.mem_append] at hb
  rcases hb with hb | hb | hb
  ·exact hsp.block_lt b hb
  ·exact hk.block_lt b hb
  ·obtain ⟨k,hk',hb'⟩:=MRe.blocksL_mem hb;exact ih k hk' b hb'
theorem KidsIn.block_lt {w:World} {ka:Option Addr} {kc:Nat} {kids:List MRe} (h:KidsIn w ka kc kids):∀ b∈MRe.blocksL kids,b < w.heap.size:=by
 intro b hb;obtain ⟨k,hk,hb'⟩:=MRe.blocksL_mem hb;exact (h.all k hk).block_lt b hb'
def Fresh (lo:Nat) (l:List Nat):Prop:=∀ b∈l,lo≤b
theorem Fresh.nil (lo:Nat):Fresh lo []:=fun _ h=> by simp at h
theorem Fresh.append {lo:Nat} {a b:List Nat} (h:Fresh lo a) (k:Fresh lo b):Fresh lo (a ++ b):=fun x hx=> by
 rcases List.mem_append.1 hx with hx | hx
 ·exact h x hx
 ·exact k x hx
theorem Fresh.mono {lo lo':Nat} {l:List Nat} (h:Fresh lo l) (hl:lo'≤lo):Fresh lo' l:=fun x hx=> Nat.le_trans hl (h x hx)
theorem Fresh.blockIf_map {lo n:Nat} {a:Option Nat} (h:∀ g,a=some g→lo≤g):Fresh lo (blockIf n (a.map fun g=> ⟨g,0,none⟩)):=by
 intro b hb;unfold blockIf at hb
 split at hb
 ·simp at hb
 ·cases a with
  | none=> simp at hb
  | some g=> simp at hb;subst hb;exact h _ rfl
theorem blockIf_nil (a:Option Addr):blockIf 0 a=[]:=by simp [blockIf]
theorem infoSpan:(Tryz.prog.info? 86).map (fun i=> (i.zero,i.size,i.bytes))=some (some (.agg #[H J 0,H J 0]),2,16):=by kernel_rfl
theorem row8_one (op:Int) (sa:Option Addr) (ns sc:Nat) (ka:Option Addr) (nk kc:Nat) (mn mx mode n:Int) (neg:Bool):(#[H J op,M sa ns sc,M ka nk kc,H J mn,H J mx,H J mode,H J n,F neg].all (·.oneCell'))=true:=by simp [Value.oneCell']
theorem SliceAt.empty (w:World) (e size:Nat):SliceAt (w.alloc (.cells #[] e)) e size (some w.heap.size) 0 0 []:=
 ⟨by simp,#[],heap_alloc_new w _,Nat.le_refl _,by unfold maxLen;omega,by simp,by simp⟩
theorem spanClone_any (sa:Option Addr) (sc:Nat) (set:List (Int × Int)) (w:World) (h:SpansIn w sa sc set) (hb:set.length≤1000000):
  Calls Tryz.prog 94 #[M sa set.length sc] w fun e w'=> ∃ sa' sc',e=.returned (M sa' set.length sc')∧SpansIn w' sa' sc' set∧Keeps [] w w'∧Fresh w.heap.size (blockIf set.length sa'):=by
 obtain ⟨i0,hi,hz0,hz1,hz2⟩:=info_parts infoSpan;have Hi:=gi hi;have Hz0:=gi hz0;have Hz1:=gi hz1;have Hz2:=gi hz2;have HS:=gi h;clear hi hz0 hz1 hz2 h;have hnil:∀ (w:World) (a:Option Addr) (n c n' c':Nat),(binOp .eql 23 (M a n c) (M none n' c')).run Tryz.prog w=.ok (F a.isNone) w:=fun w a n c n' c'=> Lib.run_eql_slice_nil w _ _ a n c n' c' Tryz.underlying23
 cases sa with
 | none=>
  have h0:set.length=0:=by have:=HS.o.nil_ rfl;have:=HS.o.le;omega
  go_enter Tryz.func94,Tryz.ntmps94
  go_wp2;go_ret;refine ⟨none,0,by rw [h0];rfl,?_,Keeps.refl _ _,by rw [h0,blockIf_nil];exact Fresh.nil _⟩
  have:set=[]:=List.eq_nil_of_length_eq_zero h0
  subst this;exact SpansIn.nil w
 | some a=>
  go_enter Tryz.func94,Tryz.ntmps94
  go_wp2_with (at_builtin;refine wpList_append_any rfl (.tmp 5) (.tmp 6) 23 rfl 86 i0 _ 2 16 Tryz.underlying23 Hi.o Hz0.o Hz1.o Hz2.o rfl (by decide) (some w.heap.size) 0 0 [] rfl (SliceAt.empty w _ _) (some a) set.length sc (flatP set) rfl (flatP_length set) (HS.o.keep ((Keeps.refl [] w).alloc _)).src (flatP_one set) (by omega) (by omega) ?hk)
  case hk=>
   intro a' c' w' hsl hk ha;have HSL:=gi hsl;have HK:=gi (show Keeps [] w w' from ((Keeps.refl [] w).alloc _).after hk (by intro x hx;simp at hx;exact .inr (by omega)));have HA:=gi (show ∀ g,a'=some g→w.heap.size≤g by
    intro g hg
    rcases ha with h | ⟨g',h,h2⟩
    ·rw [hg] at h;cases h;exact Nat.le_refl _
    ·rw [hg] at h;cases h;have:w.heap.size≤(w.alloc (.cells #[] 86)).heap.size:=by simp
     omega)
   clear hsl hk ha;go_wp2;go_ret;exact ⟨_,_,rfl,SpansIn.of_sl HSL.o,HK.o,Fresh.blockIf_map HA.o⟩
theorem trees_take (l:List MRe) (k:Nat):MRe.trees (l.take k)=(MRe.trees l).take k:=by rw [MRe.trees_eq,MRe.trees_eq,List.map_take]
theorem trees_append (a b:List MRe):MRe.trees (a ++ b)=MRe.trees a ++ MRe.trees b:=by rw [MRe.trees_eq,MRe.trees_eq,MRe.trees_eq,List.map_append]
theorem kids_bulk {op sa sc set ka kc kids mn mx mode n neg} {B:Nat} (h:(MRe.node op sa sc set ka kc kids mn mx mode n neg).tree.bulk≤B):kids.length≤B∧set.length≤B∧∀ k∈kids,k.tree.bulk≤B:=by
 simp only [MRe.tree,Tree.bulk] at h;refine ⟨?_,by omega,fun k hk=> ?_⟩
 ·have:=Tree.length_le_bulks (MRe.trees kids);rw [MRe.trees_length] at this;omega
 ·have:k.tree∈MRe.trees kids:=by rw [MRe.trees_eq];exact List.mem_map_of_mem hk
  have:=Tree.bulks_mem this
  omega
theorem rclone_any (m:MRe):∀ (w:World),m.OK w→m.tree.bulk≤1000000→
  Calls Tryz.prog 46 #[m.val] w fun e w'=> ∃ m':MRe,e=.returned m'.val∧m'.tree=m.tree∧m'.OK w'∧Keeps [] w w'∧Fresh w.heap.size m'.blocks:=by
 induction m using MRe.induct with
 | h op sa sc set ka kc kids mn mx mode n neg ih=>
  intro w k1 hbk;obtain ⟨hbl,hbs,hbm⟩:=kids_bulk hbk;obtain ⟨i0,hi,hz0,hz1,hz2⟩:=info_parts infoRe;have Hi:=gi hi;have Hz0:=gi hz0;have Hz1:=gi hz1;have Hz2:=gi hz2;have HSC:=gi (fun W (h:Keeps [] w W)=> spanClone_any sa sc set W (k1.spans.keep h) hbs);have hcap:=k1.nodes.cap;have hle:=k1.nodes.le;unfold maxLen at hcap;have HK1:=gi k1.kids;have HI:=gi ih;have HBM:=gi hbm;have hmk:∀ w:World,(Instr.makeSlice 24 (H J 0) (H J kids.length)).run Tryz.prog w=.ok (M (some ⟨w.heap.size,0,none⟩) 0 kids.length) (w.alloc (.cells (madeCells #[H J 0,M none 0 0,M none 0 0,H J 0,H J 0,H J 0,H J 0,F false] (kids.length * 8)) 26)):=fun w=> by
   have h:=run_make (P:=Tryz.prog) w 24 26 i0 _ Tryz.underlying24 hi hz0 .i64 .i64 0 kids.length (by omega) (by omega) (by rw [hz2];omega) (by omega);rw [hz1] at h;exact h
  clear hi hz0 hz1 hz2 ih k1 hbk hbm;simp only [MRe.val];go_enter Tryz.func46,Tryz.ntmps46
  go_wp2_with fail
  refine Calls.mono (HSC.o _ (Keeps.a2 w _ _)) ?_;rintro e w3 ⟨sa',sc',rfl,hsp,hk3,hfr⟩;have hbox:w3.heap[w.heap.size]? =some (.cells #[H J op,M sa set.length sc,M ka kids.length kc,H J mn,H J mx,H J mode,H J n,F neg] 26 (0,0)):=
   hk3.heap (((Keeps.a1 _ _).heap (heap_alloc_new w _) (by simp))) (by simp)
  have hres:w3.heap[w.heap.size + 1]? =some (.cells #[H J 0,M none 0 0,M none 0 0,H J 0,H J 0,H J 0,H J 0,F false] 26 (0,0)):=
   hk3.heap (heap_alloc2_new w _ _) (by simp)
  have hsz:w.heap.size + 2≤w3.heap.size:=by have:=hk3.size;simp at this;omega
  have hfr':Fresh (w.heap.size + 2) (blockIf set.length sa'):=hfr.mono (by simp only [World.alloc,Array.size_push];omega);obtain ⟨B,hB⟩:∃ B,B=w.heap.size:=⟨_,rfl⟩;have HK3:=gi ((Keeps.a2 w _ _).trans hk3);rw [←hB] at hbox hres hfr' hsz;rw [←hB];have hBw:w.heap.size≤B:=by omega
  have e1:w3.cell? ⟨B,2,none⟩=some (M ka kids.length kc):=by simp [World.cell?,hbox]
  have e2:w3.frozen? ⟨B,1,none⟩=false:=by simp [World.frozen?,hbox]
  have e3:w3.cell? ⟨B,1,none⟩=some (M sa set.length sc):=by simp [World.cell?,hbox]
  have HSP:=gi hsp;have HFR:=gi hfr';have HBOX:=gi hbox;have HRES:=gi hres;clear hB hbox hres hfr hfr' hsp hk3;go_upto_region 2 with fail
  have hboxX:(w3.setCell ⟨B,1,none⟩ (M sa' set.length sc')).heap[B]? =some (.cells #[H J op,M sa' set.length sc',M ka kids.length kc,H J mn,H J mx,H J mode,H J n,F neg] 26 (0,0)):=heap_setCell_same w3 B 1 _ 26 _ HBOX.o;have hresX:=(heap_setCell_other w3 ⟨B,1,none⟩ (B + 1) (M sa' set.length sc') (by simp)).trans HRES.o;have kX:Keeps [B] w3 (w3.setCell ⟨B,1,none⟩ (M sa' set.length sc')):=(Keeps.refl _ _).setCell (.inl (by simp)) _;have hspX:=HSP.o.keepS kX (fun b hb=> by have:=HFR.o b hb;simp;omega);have HKX:=gi (HK3.o.after kX (by intro x hx;simp at hx;subst hx;exact .inr hBw));have hszX:B + 2≤(w3.setCell ⟨B,1,none⟩ (M sa' set.length sc')).heap.size:=by have:=kX.size;omega
  clear e1 e2 e3 HBOX HRES HSP HK3 kX hsz
  generalize w3.setCell ⟨B,1,none⟩ (M sa' set.length sc')=X at *
  have e1:X.cell? ⟨B,2,none⟩=some (M ka kids.length kc):=by simp [World.cell?,hboxX]
  have HBX:=gi hboxX;have HRX:=gi hresX;have HSX:=gi hspX;clear hboxX hresX hspX;go_upto_region 3 with fail
  have kY:=Keeps.a1 X (.cells (madeCells #[H J 0,M none 0 0,M none 0 0,H J 0,H J 0,H J 0,H J 0,F false] (kids.length * 8)) 26);have slY:SliceAt (X.alloc (.cells (madeCells #[H J 0,M none 0 0,M none 0 0,H J 0,H J 0,H J 0,H J 0,F false] (kids.length * 8)) 26)) 26 8 (some X.heap.size) 0 kids.length []:=
   ⟨by simp,_,heap_alloc_new X _,by omega,by unfold maxLen;omega,size_madeCells _ _,by simp⟩
  have f1:=kY.c e1;have HBY:=gi (kY.h HBX.o);have HRY:=gi (kY.h HRX.o);have HSY:=gi (HSX.o.keep kY);have HKY:=gi (HKX.o.trans kY);have hlt:=HSX.o.block_lt;obtain ⟨G,hG⟩:∃ G,G=X.heap.size:=⟨_,rfl⟩;rw [←hG] at slY hlt ⊢;have HLT:=gi hlt;clear hlt;have hGB:B + 2≤G:=by omega
  have HSL:=gi slY;clear e1 kY slY HBX HRX HSX HKX hG hszX
  generalize X.alloc (.cells (madeCells #[H J 0,M none 0 0,M none 0 0,H J 0,H J 0,H J 0,H J 0,F false] (kids.length * 8)) 26)=Y at *
  go_wp2
  go_loopw [3,17] (fun v i wr=> ∃ (k:Nat) (a':Option Nat) (c':Nat) (ks:List MRe),k≤kids.length∧i=H J k∧v=sv a' k c'∧ks.length=k∧SliceAt wr 26 8 a' k c' (flatK ks)∧MRe.trees ks=(MRe.trees kids).take k∧(∀ x∈ks,x.OK wr∧∀ b∈x.blocks,B + 2≤b∧a'≠some b)∧(∀ g,a'=some g→B + 2≤g)∧
   wr.heap[B]? =some (.cells #[H J op,M sa' set.length sc',M ka kids.length kc,H J mn,H J mx,H J mode,H J n,F neg] 26 (0,0))∧wr.heap[B + 1]? =some (.cells #[H J 0,M none 0 0,M none 0 0,H J 0,H J 0,H J 0,H J 0,F false] 26 (0,0))∧(SpansIn wr sa' sc' set∧∀ b∈blockIf set.length sa',a'≠some b)∧Keeps [] w wr) (fun _ i _=> kids.length - (intOf i).toNat)
  case atStart=> exact ⟨0,some G,kids.length,[],Nat.zero_le _,rfl,rfl,rfl,HSL.o,rfl,by simp,by simpa using hGB,HBY.o,HRY.o,⟨HSY.o,fun b hb h=> by have:=HLT.o b hb;cases h;omega⟩,HKY.o⟩
  case round=>
   obtain ⟨k,a',c',ks,hk,rfl,rfl,hkl,hsl,htr,hks,hag,hbox,hres,⟨hsp,hspb⟩,hkp⟩:=hrel;have HKP:=gi hkp;have HSLr:=gi hsl;have HKL:=gi hkl;have HTR:=gi htr;have HKS:=gi hks;have HAG:=gi hag;have HBR:=gi hbox;have HRR:=gi hres;have HSPR:=gi hsp;have HSPB:=gi hspb;clear hsl htr hks hag hbox hres hsp hspb hkl
   by_cases hlt:k < kids.length
   ·obtain ⟨b,off,rfl,hb,hx⟩:=(HK1.o.keep hkp).nodes.kid (by omega);have hxk:=hx k hlt;have hok:=(HK1.o.keep hkp).all kids[k] (List.getElem_mem hlt);have HCALL:=gi (fun W (h:Keeps [] wr W)=> HI.o kids[k] (List.getElem_mem hlt) W (hok.keep h) (HBM.o _ (List.getElem_mem hlt)));have hnext:(MRe.trees kids).take (k + 1)=(MRe.trees kids).take k ++ [kids[k].tree]:=by
     rw [List.take_succ_eq_append_getElem (by rw [MRe.trees_length];exact hlt)];simp [MRe.trees_eq]
    have HNX:=gi hnext
    generalize kids[k]=kk at *
    obtain ⟨op1,sa1,sc1,set1,ka1,kc1,kids1,mn1,mx1,mode1,n1,neg1⟩:=kk;have g:=hxk.node;obtain ⟨c0,c1,c2,c3,c4,c5,c6,c7⟩:=id g;simp only [MRe.val] at HCALL;clear g hx hxk hok hkp hnext HI HBM;go_wp2_with fail
    refine Calls.mono (HCALL.o _ (Keeps.a1 wr _)) ?_;rintro e w5 ⟨m',rfl,ht5,ho5,hk5,hf5⟩;have hkk:Keeps [] wr w5:=(Keeps.a1 wr _).trans hk5;have hs5:=hkk.size;have HO5:=gi ho5;have HT5:=gi ht5;have hf5':Fresh (wr.heap.size + 1) m'.blocks:=hf5.mono (by simp);have HF5:=gi hf5';have HK5:=gi hkk;have hrow:m'.row=flatK [m']:=by simp [flatK]
    have hone:=flatK_one [m'];rw [←hrow] at hone;obtain ⟨m0,hm0⟩:∃ m0,m0=m':=⟨_,rfl⟩;have HM0:=gi hm0;obtain ⟨op2,sa2,sc2,set2,ka2,kc2,kids2,mn2,mx2,mode2,n2,neg2⟩:=m';simp only [MRe.row] at hone;dsimp only;have HONE:=gi hone;clear ho5 ht5 hf5 hf5' hkk hrow hone hm0 c0 c1 c2 c3 c4 c5 c6 c7 HCALL hk5
    go_wp2_with (at_builtin;refine wpList_append_sl rfl (.tmp 21) (.tmp 24) 24 rfl 26 i0 _ 8 96 Tryz.underlying24 Hi.o Hz0.o Hz1.o Hz2.o rfl (by decide) a' k c' _ rfl ((HSLr.o.keep HK5.o (by simp)).alloc _) ⟨w5.heap.size,0,none⟩ 1 1 [H J op2,M sa2 set2.length sc2,M ka2 kids2.length kc2,H J mn2,H J mx2,H J mode2,H J n2,F neg2] rfl rfl (news_row' _ _ _ _ rfl) HONE.o (by decide) (by omega) (by omega) ?hk)
    case hk=>
     intro g6 c6 w6 hsl6 hk6 hg6;have kk6:Keeps a'.toList wr w6:=((HK5.o.alloc _).mono (by simp)).trans hk6;have hwr:B + 1 < wr.heap.size:=lt_of_block HRR.o;have hal:∀ y,a'=some y→y < wr.heap.size:=fun y hy=> by subst hy;exact HSLr.o.lt
     have hg7:a'=some g6∨w5.heap.size + 1≤g6:=by
      rcases hg6 with h | h
      ·exact .inl h
      ·right;simpa using h
     have hel:∀ x∈ks ++ [m0],x.OK w6∧∀ b∈x.blocks,B + 2≤b∧some g6≠some b:=by
      intro x hx
      rcases List.mem_append.1 hx with hx | hx
      ·obtain ⟨h1,h2⟩:=HKS.o x hx;refine ⟨h1.keepS kk6 fun b hb h=> (h2 b hb).2 (by simpa using h),fun b hb=> ⟨(h2 b hb).1,fun h=> ?_⟩⟩;have h3:=h1.block_lt b hb
       rcases hg7 with h7 | h7
       ·exact (h2 b hb).2 (by rw [h7,h])
       ·cases h;omega
      ·simp at hx;subst hx;rw [HM0.o];refine ⟨(HO5.o.keep (Keeps.a1 w5 _)).keepS hk6 fun b hb h=> ?_,fun b hb=> ?_⟩
       ·have h3:=HF5.o b hb;have h4:=hal b (by simpa using h);omega
       ·have h3:=HF5.o b hb;have h4:=HO5.o.block_lt b hb;refine ⟨by omega,fun h=> ?_⟩
        cases h
        rcases hg7 with h7 | h7
        ·have:=hal _ h7;omega
        ·omega
     have hag6:∀ z,some g6=some z→B + 2≤z:=by
      intro z hz
      cases hz
      rcases hg7 with h7 | h7
      ·exact HAG.o _ h7
      ·omega
     have hnB:B ∉ a'.toList:=fun h=> by have:=HAG.o B (by simpa using h);omega
     have hnB1:B + 1 ∉ a'.toList:=fun h=> by have:=HAG.o (B + 1) (by simpa using h);omega
     have hb6:=kk6.heap HBR.o hnB;have hr6:=kk6.heap HRR.o hnB1;have hs6:=HSPR.o.keepS kk6 (fun b hb h=> HSPB.o b hb (by simpa using h));have hsb6:∀ b∈blockIf set.length sa',some g6≠some b:=by
      intro b hb h
      rcases hg7 with h7 | h7
      ·exact HSPB.o b hb (by rw [h7,h])
      ·have:=HSPR.o.block_lt b hb;cases h;omega
     have hkp6:Keeps [] w w6:=HKP.o.after kk6 (by intro x hx;simp at hx;have:=HAG.o x hx;exact .inr (by omega));have htr6:MRe.trees (ks ++ [m0])=(MRe.trees kids).take (k + 1):=by
      rw [trees_append,HTR.o,HNX.o]
      congr 1
      simp only [MRe.trees,HM0.o,HT5.o]
     have hsl7:SliceAt w6 26 8 (some g6) (k + 1) c6 (flatK (ks ++ [m0])):=by
      rw [flatK_append]
      have:flatK [m0]=[H J op2,M sa2 set2.length sc2,M ka2 kids2.length kc2,H J mn2,H J mx2,H J mode2,H J n2,F neg2]:=by rw [HM0.o];rfl
      rw [this];exact hsl6
     have HEL:=gi hel;have HAG6:=gi hag6;have HB6:=gi hb6;have HR6:=gi hr6;have HS6:=gi hs6;have HSB6:=gi hsb6;have HKP6:=gi hkp6;have HTR6:=gi htr6;have HSL7:=gi hsl7;clear hel hag6 hb6 hr6 hs6 hsb6 hkp6 htr6 hsl7 hsl6 hk6 hg6 hg7 kk6 hal hwr hnB hnB1;go_wp2;go_roundw
     case rel=> exact ⟨k + 1,some g6,c6,ks ++ [m0],by omega,by go_num,rfl,by rw [List.length_append,HKL.o];rfl,HSL7.o,HTR6.o,HEL.o,HAG6.o,HB6.o,HR6.o,⟨HS6.o,HSB6.o⟩,HKP6.o⟩
     case measure=> simp [intOf];omega
   ·obtain rfl:k=kids.length:=by omega
    clear hkp HI;have e2:wr.frozen? ⟨B,2,none⟩=false:=by simp [World.frozen?,HBR.o]
    have e3:wr.cell? ⟨B,2,none⟩=some (M ka kids.length kc):=by simp [World.cell?,HBR.o]
    simp only [sv];go_upto_region 9 with fail
    have kX:Keeps [B] wr (wr.setCell ⟨B,2,none⟩ (M (a'.map fun g=> ⟨g,0,none⟩) kids.length c')):=(Keeps.refl _ _).setCell (.inl (by simp)) _;have hbX:(wr.setCell ⟨B,2,none⟩ (M (a'.map fun g=> ⟨g,0,none⟩) kids.length c')).heap[B]? =some (.cells #[H J op,M sa' set.length sc',M (a'.map fun g=> ⟨g,0,none⟩) kids.length c',H J mn,H J mx,H J mode,H J n,F neg] 26 (0,0)):=heap_setCell_same wr B 2 _ 26 _ HBR.o;have hrX:=kX.h HRR.o;have hkX:KidsIn (wr.setCell ⟨B,2,none⟩ (M (a'.map fun g=> ⟨g,0,none⟩) kids.length c')) (a'.map fun g=> ⟨g,0,none⟩) c' ks:=
     ⟨(NodesIn.of_sl HSLr.o).keepS kX (fun b hb=> by have:=(Fresh.blockIf_map HAG.o) b hb;simp;omega),fun x hx=> (HKS.o x hx).1.keepS kX (fun b hb=> by have:=((HKS.o x hx).2 b hb).1;simp;omega)⟩
    have hsX:=HSPR.o.keepS kX (fun b hb=> by have:=HFR.o b hb;simp;omega);have hkpX:=HKP.o.after kX (by intro x hx;simp at hx;subst hx;exact .inr hBw);have HBX:=gi hbX;have HRX:=gi hrX;have HKX:=gi hkX;have HSX:=gi hsX;have HKPX:=gi hkpX;clear e2 e3 kX hbX hrX hkX hsX hkpX HBR HRR HSPR HKP
    generalize wr.setCell ⟨B,2,none⟩ (M (a'.map fun g=> ⟨g,0,none⟩) kids.length c')=X at *
    have d0:X.cell? ⟨B,0,none⟩=some (H J op):=by simp [World.cell?,HBX.o]
    have d1:X.cell? ⟨B,1,none⟩=some (M sa' set.length sc'):=by simp [World.cell?,HBX.o]
    have d2:X.cell? ⟨B,2,none⟩=some (M (a'.map fun g=> ⟨g,0,none⟩) kids.length c'):=by simp [World.cell?,HBX.o]
    have d3:X.cell? ⟨B,3,none⟩=some (H J mn):=by simp [World.cell?,HBX.o]
    have d4:X.cell? ⟨B,4,none⟩=some (H J mx):=by simp [World.cell?,HBX.o]
    have d5:X.cell? ⟨B,5,none⟩=some (H J mode):=by simp [World.cell?,HBX.o]
    have d6:X.cell? ⟨B,6,none⟩=some (H J n):=by simp [World.cell?,HBX.o]
    have d7:X.cell? ⟨B,7,none⟩=some (F neg):=by simp [World.cell?,HBX.o]
    have HLTX:=gi (lt_of_block HRX.o)
    by_cases hz:kids.length=0
    ·have hkz:kids=[]:=List.eq_nil_of_length_eq_zero hz;subst hkz;have f2:X.frozen? ⟨B,2,none⟩=false:=by simp [World.frozen?,HBX.o]
     go_upto_region 11 with fail
     have hbZ:(X.setCell ⟨B,2,none⟩ (M none 0 0)).heap[B]? =some (.cells #[H J op,M sa' set.length sc',M none 0 0,H J mn,H J mx,H J mode,H J n,F neg] 26 (0,0)):=heap_setCell_same X B 2 _ 26 _ HBX.o;have kZ:Keeps [B] X (X.setCell ⟨B,2,none⟩ (M none 0 0)):=(Keeps.refl _ _).setCell (.inl (by simp)) _;have hrZ:=kZ.h HRX.o;have hsZ:=HSX.o.keepS kZ (fun b hb=> by have:=HFR.o b hb;simp;omega);have HKZ:=gi (HKPX.o.after kZ (by intro x hx;simp at hx;subst hx;exact .inr hBw));have HBZ:=gi hbZ;have HRZ:=gi hrZ;have HSZ:=gi hsZ;clear d0 d1 d2 d3 d4 d5 d6 d7 f2 kZ hbZ hrZ hsZ HBX HRX HSX HKPX
     generalize X.setCell ⟨B,2,none⟩ (M none 0 0)=Z at *
     go_wp2_with ((refine wpList_load_row rfl 26 (.tmp 1) rfl B rfl 26 #[H J op,M sa' set.length sc',M none 0 0,H J mn,H J mx,H J mode,H J n,F neg] (0,0) _ HBZ.o Tryz.underlying26 rfl sizeRe (wpList_store_row rfl 26 (.tmp 2) (.tmp 33) rfl (B + 1) #[H J op,M sa' set.length sc',M none 0 0,H J mn,H J mx,H J mode,H J n,F neg] rfl rfl 26 _ HRZ.o sizeRe rfl (row8_one _ _ _ _ _ _ _ _ _ _ _ _) ?_)))
     have hR:=setRow_heap Z (B + 1) _ #[H J op,M sa' set.length sc',M none 0 0,H J mn,H J mx,H J mode,H J n,F neg] 26 (0,0) HRZ.o;have kR:Keeps [B + 1] Z (Z.setRow (B + 1) #[H J op,M sa' set.length sc',M none 0 0,H J mn,H J mx,H J mode,H J n,F neg]):=(Keeps.refl _ _).setRow (.inl (by simp)) _;refine rc hR ?_;refine ⟨.node op sa' sc' set none 0 [] mn mx mode n neg,rfl,rfl,?_,HKZ.o.after kR (by intro x hx;simp at hx;subst hx;exact .inr (by omega)),?_⟩
     ·exact .of (HSZ.o.keepS kR (fun b hb=> by have:=HFR.o b hb;simp;omega)) (KidsIn.nil _)
     ·exact (HFR.o.mono (by omega)).append ((Fresh.nil _).append (Fresh.nil _))
    ·go_wp2_with ((refine wpList_load_row rfl 26 (.tmp 1) rfl B rfl 26 #[H J op,M sa' set.length sc',M (a'.map fun g=> ⟨g,0,none⟩) kids.length c',H J mn,H J mx,H J mode,H J n,F neg] (0,0) _ HBX.o Tryz.underlying26 rfl sizeRe (wpList_store_row rfl 26 (.tmp 2) (.tmp 33) rfl (B + 1) #[H J op,M sa' set.length sc',M (a'.map fun g=> ⟨g,0,none⟩) kids.length c',H J mn,H J mx,H J mode,H J n,F neg] rfl rfl 26 _ HRX.o sizeRe rfl (row8_one _ _ _ _ _ _ _ _ _ _ _ _) ?_)))
     have hR:=setRow_heap X (B + 1) _ #[H J op,M sa' set.length sc',M (a'.map fun g=> ⟨g,0,none⟩) kids.length c',H J mn,H J mx,H J mode,H J n,F neg] 26 (0,0) HRX.o;have kR:Keeps [B + 1] X (X.setRow (B + 1) #[H J op,M sa' set.length sc',M (a'.map fun g=> ⟨g,0,none⟩) kids.length c',H J mn,H J mx,H J mode,H J n,F neg]):=(Keeps.refl _ _).setRow (.inl (by simp)) _;have hfb:=Fresh.blockIf_map (n:=ks.length) HAG.o;have hfk:Fresh (B + 2) (MRe.blocksL ks):=fun b hb=> by
      obtain ⟨x,hx,hbx⟩:=MRe.blocksL_mem hb;exact ((HKS.o x hx).2 b hbx).1
     refine rc hR ?_;refine ⟨.node op sa' sc' set (a'.map fun g=> ⟨g,0,none⟩) c' ks mn mx mode n neg,by simp only [HKL.o],?_,?_,HKPX.o.after kR (by intro x hx;simp at hx;subst hx;exact .inr (by omega)),?_⟩
     ·simp only [MRe.tree,HTR.o];rw [←MRe.trees_length,List.take_length]
     ·exact .of (HSX.o.keepS kR (fun b hb=> by have:=HFR.o b hb;simp;omega)) (HKX.o.keepS kR (fun b hb=> by have:=(hfb.append hfk) b hb;simp;omega))
     ·exact (HFR.o.mono (by omega)).append ((hfb.mono (by omega)).append (hfk.mono (by omega)))
@[reducible] def set8 (w:World) (g:Nat) (v0 v1 v2 v3 v4 v5 v6 v7:Value):World:=
 (((((((w.setCell ⟨g,0,none⟩ v0).setCell ⟨g,1,none⟩ v1).setCell ⟨g,2,none⟩ v2).setCell ⟨g,3,none⟩ v3).setCell ⟨g,4,none⟩ v4).setCell ⟨g,5,none⟩ v5).setCell ⟨g,6,none⟩ v6).setCell ⟨g,7,none⟩ v7
theorem set8_heap {w:World} {g T:Nat} (h:w.heap[g]? =some (.cells #[H J 0,M none 0 0,M none 0 0,H J 0,H J 0,H J 0,H J 0,F false] T (0,0))) (v0 v1 v2 v3 v4 v5 v6 v7:Value):(set8 w g v0 v1 v2 v3 v4 v5 v6 v7).heap[g]? =some (.cells #[v0,v1,v2,v3,v4,v5,v6,v7] T (0,0)):=by
 have h0:(w.setCell ⟨g,0,none⟩ v0).heap[g]? =some (.cells #[v0,M none 0 0,M none 0 0,H J 0,H J 0,H J 0,H J 0,F false] T (0,0)):=heap_setCell_same _ g 0 _ T v0 h;have h1:((w.setCell ⟨g,0,none⟩ v0).setCell ⟨g,1,none⟩ v1).heap[g]? =some (.cells #[v0,v1,M none 0 0,H J 0,H J 0,H J 0,H J 0,F false] T (0,0)):=heap_setCell_same _ g 1 _ T v1 h0;have h2:(((w.setCell ⟨g,0,none⟩ v0).setCell ⟨g,1,none⟩ v1).setCell ⟨g,2,none⟩ v2).heap[g]? =some (.cells #[v0,v1,v2,H J 0,H J 0,H J 0,H J 0,F false] T (0,0)):=heap_setCell_same _ g 2 _ T v2 h1;have h3:((((w.setCell ⟨g,0,none⟩ v0).setCell ⟨g,1,none⟩ v1).setCell ⟨g,2,none⟩ v2).setCell ⟨g,3,none⟩ v3).heap[g]? =some (.cells #[v0,v1,v2,v3,H J 0,H J 0,H J 0,F false] T (0,0)):=heap_setCell_same _ g 3 _ T v3 h2;have h4:(((((w.setCell ⟨g,0,none⟩ v0).setCell ⟨g,1,none⟩ v1).setCell ⟨g,2,none⟩ v2).setCell ⟨g,3,none⟩ v3).setCell ⟨g,4,none⟩ v4).heap[g]? =some (.cells #[v0,v1,v2,v3,v4,H J 0,H J 0,F false] T (0,0)):=heap_setCell_same _ g 4 _ T v4 h3;have h5:((((((w.setCell ⟨g,0,none⟩ v0).setCell ⟨g,1,none⟩ v1).setCell ⟨g,2,none⟩ v2).setCell ⟨g,3,none⟩ v3).setCell ⟨g,4,none⟩ v4).setCell ⟨g,5,none⟩ v5).heap[g]? =some (.cells #[v0,v1,v2,v3,v4,v5,H J 0,F false] T (0,0)):=heap_setCell_same _ g 5 _ T v5 h4;have h6:(((((((w.setCell ⟨g,0,none⟩ v0).setCell ⟨g,1,none⟩ v1).setCell ⟨g,2,none⟩ v2).setCell ⟨g,3,none⟩ v3).setCell ⟨g,4,none⟩ v4).setCell ⟨g,5,none⟩ v5).setCell ⟨g,6,none⟩ v6).heap[g]? =some (.cells #[v0,v1,v2,v3,v4,v5,v6,F false] T (0,0)):=heap_setCell_same _ g 6 _ T v6 h5;have h7:((((((((w.setCell ⟨g,0,none⟩ v0).setCell ⟨g,1,none⟩ v1).setCell ⟨g,2,none⟩ v2).setCell ⟨g,3,none⟩ v3).setCell ⟨g,4,none⟩ v4).setCell ⟨g,5,none⟩ v5).setCell ⟨g,6,none⟩ v6).setCell ⟨g,7,none⟩ v7).heap[g]? =some (.cells #[v0,v1,v2,v3,v4,v5,v6,v7] T (0,0)):=heap_setCell_same _ g 7 _ T v7 h6;exact h7
theorem set8_keeps (w:World) (g:Nat) (v0 v1 v2 v3 v4 v5 v6 v7:Value):Keeps [g] w (set8 w g v0 v1 v2 v3 v4 v5 v6 v7):=
 (((((((((Keeps.refl [g] w).setCell (.inl (by simp)) _).setCell (.inl (by simp)) _).setCell (.inl (by simp)) _).setCell (.inl (by simp)) _).setCell (.inl (by simp)) _).setCell (.inl (by simp)) _).setCell (.inl (by simp)) _).setCell (.inl (by simp)) _)
theorem zero_cells {w:World} {g T:Nat} (h:w.heap[g]? =some (.cells #[H J 0,M none 0 0,M none 0 0,H J 0,H J 0,H J 0,H J 0,F false] T (0,0))):
  w.cell? ⟨g,0,none⟩=some (H J 0)∧w.cell? ⟨g,1,none⟩=some (M none 0 0)∧w.cell? ⟨g,2,none⟩=some (M none 0 0)∧w.cell? ⟨g,3,none⟩=some (H J 0)∧w.cell? ⟨g,4,none⟩=some (H J 0)∧w.cell? ⟨g,5,none⟩=some (H J 0)∧w.cell? ⟨g,6,none⟩=some (H J 0)∧w.cell? ⟨g,7,none⟩=some (F false)∧∀ o,w.frozen? ⟨g,o,none⟩=false:=by
 simp [World.cell?,World.frozen?,h]
theorem results_row_tmp {P:Program} {fn:Func} {p q:Tmp} {ty:TypeId} (h:fn.results=#[.cell p ty,.tmp q]) (tmps:Array Value) (w:World) (g:Nat) (t:TypeId) (cs:Array Value) (fr:Nat × Nat) (d:TypeDesc)
  (hp:tmps.getD p undef=.pointer (some ⟨g,0,none⟩)) (hg:w.heap[g]? =some (.cells cs t fr))
  (hu:P.underlying ty=some d) (hd:(match d with | .struct _ | .array _ _=> true | _=> false)=true) (hi:(P.info? ty).map (·.size)=some cs.size):
  (results fn tmps).run P w=.ok (.tuple #[.agg cs,tmps.getD q undef]) w:=by
 have hp':tmps[p]?.getD undef=.pointer (some ⟨g,0,none⟩):=by simpa using hp
 simp [results,h,hp',asAddr,run_loadVar_row w g t ty cs fr d hg hu hd hi]
def From (lo:Nat) (src l:List Nat):Prop:=∀ b∈l,b∈src∨lo≤b
theorem From.mono {lo lo':Nat} {src src' l:List Nat} (h:From lo src l) (hl:lo'≤lo) (hs:∀ b∈src,b∈src'∨lo'≤b):From lo' src' l:=fun b hb=> by
 rcases h b hb with h | h
 ·exact hs b h
 ·exact .inr (Nat.le_trans hl h)
theorem From.append {lo:Nat} {src a b:List Nat} (h:From lo src a) (k:From lo src b):From lo src (a ++ b):=fun x hx=> by
 rcases List.mem_append.1 hx with hx | hx
 ·exact h x hx
 ·exact k x hx
theorem From.nil (lo:Nat) (src:List Nat):From lo src []:=fun _ h=> by simp at h
theorem From.refl (lo:Nat) (l:List Nat):From lo l l:=fun _ h=> .inl h
theorem From.of_mem {lo:Nat} {src l:List Nat} (h:∀ b∈l,b∈src):From lo src l:=fun b hb=> .inl (h b hb)
theorem blocks_kid {op sa sc set ka kc kids mn mx mode n neg} {k:MRe} (hk:k∈kids):∀ b∈k.blocks,b∈(MRe.node op sa sc set ka kc kids mn mx mode n neg).blocks:=fun b hb=> by
 simp only [MRe.blocks,List.mem_append];exact .inr (.inr (MRe.mem_blocksL hk hb))
theorem rt {fn:Func} {R:Ending→World→Prop} {a:Act} {w:World} {p q:Tmp} {g:Nat} {cs:Array Value} (hg:w.heap[g]? =some (.cells cs 26 (0,0))) (hR:R (.returned (.tuple #[.agg cs,a.tmps.getD q undef])) w) (h:fn.results=#[.cell p 26,.tmp q]:=by rfl) (hp:a.tmps.getD p undef=.pointer (some ⟨g,0,none⟩):=by rfl) (hi:8=cs.size:=by rfl) (hd:a.defers=[]:=by rfl):bodyPost Tryz.prog fn R .ret a w:=
 bodyPost_ret (results_row_tmp h _ _ g 26 cs (0,0) _ hp hg Tryz.underlying26 rfl (by rw [sizeRe,hi])) hd hR
theorem nn {w X W:World} {B:Nat} (hB:B=w.heap.size) (kX:Keeps [] w X) (kW:Keeps [] X W) (hz:X.heap[B + 1]? =some (.cells #[H J 0,M none 0 0,M none 0 0,H J 0,H J 0,H J 0,H J 0,F false] 26 (0,0))):
  W.cell? ⟨B + 1,0,none⟩=some (H J 0)∧W.cell? ⟨B + 1,1,none⟩=some (M none 0 0)∧W.cell? ⟨B + 1,2,none⟩=some (M none 0 0)∧W.cell? ⟨B + 1,3,none⟩=some (H J 0)∧W.cell? ⟨B + 1,4,none⟩=some (H J 0)∧W.cell? ⟨B + 1,5,none⟩=some (H J 0)∧W.cell? ⟨B + 1,6,none⟩=some (H J 0)∧W.cell? ⟨B + 1,7,none⟩=some (F false)∧(∀ o,W.frozen? ⟨B + 1,o,none⟩=false)∧Hd ((set8 W (B + 1) (H J 0) (M none 0 0) (M none 0 0) (H J 0) (H J 0) (H J 0) (H J 0) (F false)).heap[B + 1]? =some (.cells #[H J 0,M none 0 0,M none 0 0,H J 0,H J 0,H J 0,H J 0,F false] 26 (0,0)))∧Hd (Keeps [] w (set8 W (B + 1) (H J 0) (M none 0 0) (M none 0 0) (H J 0) (H J 0) (H J 0) (H J 0) (F false))):=by
 obtain ⟨z0,z1,z2,z3,z4,z5,z6,z7,zf⟩:=zero_cells (kW.h hz);exact ⟨z0,z1,z2,z3,z4,z5,z6,z7,zf,⟨set8_heap (kW.h hz) (H J 0) (M none 0 0) (M none 0 0) (H J 0) (H J 0) (H J 0) (H J 0) (F false)⟩,⟨(kX.trans kW).after (set8_keeps _ (B + 1) (H J 0) (M none 0 0) (M none 0 0) (H J 0) (H J 0) (H J 0) (H J 0) (F false)) (by intro x hx;simp at hx;subst hx;exact .inr (by omega))⟩⟩
end Go.Proofs.YtjnlkjlbejelgaaGreat
