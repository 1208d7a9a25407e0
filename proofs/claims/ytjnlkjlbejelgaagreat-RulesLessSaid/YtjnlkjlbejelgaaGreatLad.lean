/- Part 4 of the proof. No condition: every lemma says its own. -/
import Derived.Lib.AppendZeros
import Derived.Test.YtjnlkjlbejelgaaGreatLac
import Derived.Test.YtjnlkjlbejelgaaGreatLab
namespace Go.Proofs.YtjnlkjlbejelgaaGreat
open Go.RowKit
open Go.Value renaming int→H,slice→M,bool→F
open Go.IntKind renaming i64→J
set_option maxRecDepth 100000
set_option maxHeartbeats 16000000
theorem run_append_nil_zeros' (n:Nat) (w:World) (i:TypeInfo) (hi:Tryz.prog.info? 26=some i) (hz0:i.zero=some (.agg #[H J 0,M none 0 0,M none 0 0,H J 0,H J 0,H J 0,H J 0,F false])) (hz1:i.size=8) (hz2:i.bytes=96) (h0:¬ n=0) (hn:n≤1000000) (ty:TypeId):
  (Builtin.append_ #[24,3] ty #[M none 0 0,H J n]).run Tryz.prog w=
   .ok (M (some ⟨w.heap.size,0,none⟩) n (grownCap w n 0 26)) (w.drew.alloc (.cells (Builtin.zeroCells #[H J 0,M none 0 0,M none 0 0,H J 0,H J 0,H J 0,H J 0,F false] n ++ Builtin.zeroCells #[H J 0,M none 0 0,M none 0 0,H J 0,H J 0,H J 0,H J 0,F false] (grownCap w n 0 26 - n)) 26)):=
 Lib.run_append_nil_zeros (P:=Tryz.prog) w 24 3 ty 26 i _ .i64 .i64 Tryz.underlying24 Tryz.underlying3 hi hz0 n (by omega) (by omega) (by omega) (by rw [hz2];omega)
theorem grow_any (n:Nat) (w:World) (hn:n≤1000000):
  Calls Tryz.prog 148 #[M none 0 0,H J n] w fun e w'=> ∃ a' c',e=.returned (sv a' 0 c')∧SliceAt w' 26 8 a' 0 c' []∧Keeps [] w w'∧(∀ g,a'=some g→w.heap.size≤g):=by
 by_cases h0:n=0
 ·subst h0;go_enter Tryz.func148,Tryz.ntmps148
  go_wp2;go_ret;exact ⟨none,0,rfl,SliceAt.nil _ _ _,Keeps.refl _ _,by simp⟩
 ·obtain ⟨i0,hi,hz0,hz1,hz2⟩:=info_parts infoRe;have hr:=run_append_nil_zeros' n w i0 hi hz0 hz1 hz2 h0 hn 24;have hge:=grownCap_ge w n 0 26;have hle:=grownCap_le_maxLen w n 0 26 (by unfold maxLen;omega);have hsz:(Builtin.zeroCells #[H J 0,M none 0 0,M none 0 0,H J 0,H J 0,H J 0,H J 0,F false] n ++ Builtin.zeroCells #[H J 0,M none 0 0,M none 0 0,H J 0,H J 0,H J 0,H J 0,F false] (grownCap w n 0 26 - n)).size=grownCap w n 0 26 * 8:=by
   rw [Array.size_append,size_zeroCells,size_zeroCells,←Nat.add_mul]
   congr 1
   omega
  have hn':(0:Int) < n:=by omega
  obtain ⟨C,hC⟩:∃ C,C=grownCap w n 0 26:=⟨_,rfl⟩;rw [←hC] at hr hge hle hsz;have HR:=gi hr;have HGE:=gi hge;have hc0:¬ C=0:=by omega
  have hc1:C≤9223372036854775807:=by unfold maxLen at hle;omega
  clear hi hz0 hz1 hz2 hr hC hle;have HLE:=gi hc1;go_enter Tryz.func148,Tryz.ntmps148
  go_wp2_with (at_builtin;refine Lib.wpList_append_run _ rfl _ _ _ _ rfl _ _ rfl rfl _ _ HR.o ?_)
  go_wp2;go_ret;exact ⟨some w.heap.size,C,rfl,⟨by simp,_,heap_alloc_new w _,by omega,by have:=HLE.o;unfold maxLen;omega,hsz,by simp⟩,((Keeps.refl [] w).alloc _).drew,by intro g hg;cases hg;exact Nat.le_refl _⟩
structure Part where
 ka:Option Addr
 kc:Nat
 kids:List MRe
def Part.val (p:Part):Value:=M p.ka p.kids.length p.kc
def total (l:List Part):Nat:=(l.flatMap Part.kids).length
theorem total_take (l:List Part) (k:Nat) (h:k < l.length):total (l.take (k + 1))=total (l.take k) + l[k].kids.length:=by
 unfold total;rw [List.take_succ_eq_append_getElem h,List.flatMap_append,List.length_append]
 simp
theorem total_le (l:List Part) (k:Nat):total (l.take k)≤total l:=by
 unfold total;have h:=congrArg List.length (congrArg (List.flatMap Part.kids) (List.take_append_drop k l));rw [List.flatMap_append,List.length_append] at h;omega
theorem concat_any (g:Nat) (parts:List Part) (w:World) (hg:∀ i (h:i < parts.length),w.cell? ⟨g,i,none⟩=some parts[i].val) (hk:∀ p∈parts,KidsIn w p.ka p.kc p.kids) (hb:total parts≤1000000) (hl:parts.length≤10):
  Calls Tryz.prog 141 #[M (some ⟨g,0,none⟩) parts.length parts.length] w fun e w'=> ∃ a' c',e=.returned (sv a' (total parts) c')∧KidsIn w' (a'.map fun g=> ⟨g,0,none⟩) c' (parts.flatMap Part.kids)∧Keeps [] w w'∧(∀ g,a'=some g→w.heap.size≤g):=by
 obtain ⟨i0,hi,hz0,hz1,hz2⟩:=info_parts infoRe;have Hi:=gi hi;have Hz0:=gi hz0;have Hz1:=gi hz1;have Hz2:=gi hz2;have HG:=gi hg;have HK:=gi hk;have HTT:=gi (total_take parts);have HTL:=gi (total_le parts);clear hi hz0 hz1 hz2 hg hk;obtain ⟨TOT,hTOT⟩:∃ t,t=total parts:=⟨_,rfl⟩;rw [←hTOT] at hb ⊢;have HTOT:=gi hTOT;clear hTOT;go_enter Tryz.func141,Tryz.ntmps141
 go_wp2
 go_loop [3,11] (fun s i=> ∃ k n:Nat,k≤parts.length∧i=H J k∧s=H J n∧n=total (parts.take k)) (fun _ i=> parts.length - (intOf i).toNat)
 case atStart=> exact ⟨0,0,Nat.zero_le _,rfl,rfl,rfl⟩
 case round=>
  obtain ⟨k,n,hkk,rfl,rfl,hn⟩:=hrel;have HN:=gi hn;clear hn
  by_cases hlt:k < parts.length
  ·have hc:=HG.o k hlt;have htt:=HTT.o k hlt;have htl:=HTL.o (k + 1);rw [←HTOT.o] at htl;have hle:=(HK.o parts[k] (List.getElem_mem hlt)).nodes.le;rw [←HN.o] at htt
   generalize parts[k]=p at *
   obtain ⟨ka,kc,kids⟩:=p;simp only [Part.val] at hc hle htt;have HT2:=gi htt;have hb2:n + kids.length≤1000000:=by omega
   clear htt htl;go_wp2
   go_round
   case rel=> exact ⟨k + 1,n + kids.length,by omega,by go_num,by go_num,HT2.o.symm⟩
   case measure=> simp [intOf];omega
  ·obtain rfl:k=parts.length:=by omega
   have hn2:n=TOT:=by rw [HN.o,List.take_length,HTOT.o]
   subst hn2;have HGR:=gi (grow_any n w hb);go_wp2_with fail
   refine Calls.mono HGR.o ?_;rintro e w2 ⟨a2,c2,rfl,hsl,hk2,ha2⟩;have HSL:=gi hsl;have HK2:=gi hk2;have HA2:=gi ha2;simp only [sv];clear hsl hk2 ha2 HGR HTT;go_wp2
   go_loopw [6,27] (fun v i wr=> ∃ (k:Nat) (a':Option Nat) (c':Nat),k≤parts.length∧i=H J k∧v=sv a' (total (parts.take k)) c'∧SliceAt wr 26 8 a' (total (parts.take k)) c' (flatK ((parts.take k).flatMap Part.kids))∧Keeps [] w wr∧(∀ g,a'=some g→w.heap.size≤g)) (fun _ i _=> parts.length - (intOf i).toNat)
   case atStart=> exact ⟨0,a2,c2,Nat.zero_le _,rfl,rfl,HSL.o,HK2.o,HA2.o⟩
   case round=>
    obtain ⟨k,a',c',hkk,rfl,rfl,hsl,hkp,ha⟩:=hrel;have HS:=gi hsl;have HKP:=gi hkp;have HA:=gi ha;clear hsl ha HSL HK2 HA2
    by_cases hlt:k < parts.length
    ·have hc:=hkp.cell (HG.o k hlt) (by simp);have htt:=total_take parts k hlt;have htl:=HTL.o (k + 1);rw [←HTOT.o] at htl;have hks:=(HK.o parts[k] (List.getElem_mem hlt)).keep hkp;have hfl:(parts.take (k + 1)).flatMap Part.kids=(parts.take k).flatMap Part.kids ++ parts[k].kids:=by
      rw [List.take_succ_eq_append_getElem hlt,List.flatMap_append];simp
     generalize parts[k]=p at *
     obtain ⟨ka,kc,kids⟩:=p;simp only [Part.val] at hc htt hks hfl;have hle:=hks.nodes.le;obtain ⟨m,hm⟩:∃ m,m=total (parts.take k):=⟨_,rfl⟩;rw [←hm] at htt HS ⊢;have HKS:=gi hks;have HFL:=gi hfl;have HM:=gi hm;have HTK:=gi htt;have hb2:m + kids.length≤1000000:=by omega
     clear htt htl hks hfl hkp hm;simp only [sv]
     go_wp2_with (at_builtin;refine wpList_append_any rfl (.tmp 31) (.tmp 32) 24 rfl 26 i0 _ 8 96 Tryz.underlying24 Hi.o Hz0.o Hz1.o Hz2.o rfl (by decide) a' m c' _ rfl HS.o ka kids.length kc (flatK kids) rfl (flatK_length kids) HKS.o.nodes.src (flatK_one kids) (by omega) (by omega) ?hk)
     case hk=>
      intro a3 c3 w3 hsl3 hk3 ha3;have HS3:=gi hsl3;have HK3:=gi (show Keeps [] w w3 from HKP.o.after hk3 (by intro x hx;simp at hx;exact .inr (HA.o x hx)));have HA3:=gi (show ∀ g,a3=some g→w.heap.size≤g by
       intro g hg
       rcases ha3 with h | ⟨g',h,h2⟩
       ·exact HA.o g (by rw [←h,hg])
       ·rw [hg] at h;cases h;have:=HKP.o.size;omega)
      clear hsl3 hk3 ha3;go_wp2;go_roundw
      case rel=> exact ⟨k + 1,a3,c3,by omega,by go_num,by rw [HTK.o];rfl,by rw [HTK.o,HFL.o,flatK_append];exact HS3.o,HK3.o,HA3.o⟩
      case measure=> simp [intOf];omega
    ·obtain rfl:k=parts.length:=by omega
     have hn2:total (parts.take parts.length)=n:=by rw [List.take_length,HTOT.o]
     rw [hn2,List.take_length] at HS;rw [hn2];simp only [sv];clear hkp hn2;go_wp2;go_ret;exact ⟨a',c',rfl,⟨NodesIn.of_sl HS.o,fun x hx=> by
      obtain ⟨p,hp,hx⟩:=List.mem_flatMap.1 hx;exact (((HK.o p hp).keep HKP.o).all x hx)⟩,HKP.o,HA.o⟩
def naryT (op:Int):List Tree→Tree
 | [x]=> x
 | l=> .node op [] l 0 0 0 0 false
theorem nary_any (op:Int) (ka:Option Addr) (kc:Nat) (kids:List MRe) (w:World) (hk:KidsIn w ka kc kids):
  Calls Tryz.prog 121 #[H J op,M ka kids.length kc] w fun e w'=> ∃ m:MRe,e=.returned m.val∧m.tree=naryT op (MRe.trees kids)∧m.OK w'∧Keeps [] w w'∧∀ b∈m.blocks,b∈blockIf kids.length ka ++ MRe.blocksL kids:=by
 have HK:=gi hk;clear hk
 by_cases h1:kids.length=1
 ·obtain ⟨b,off,rfl,hb,hx⟩:=HK.o.nodes.kid (by omega);have hx0:=hx 0 (by omega);have hok:=HK.o.all kids[0] (List.getElem_mem (by omega));have hblk:∀ q∈kids[0].blocks,q∈blockIf kids.length (some ⟨b,off,none⟩) ++ MRe.blocksL kids:=fun x hx=> List.mem_append_right _ (MRe.mem_blocksL (List.getElem_mem _) hx);have HBLK:=gi hblk;clear hblk;have htr:naryT op (MRe.trees kids)=kids[0].tree:=by
   match kids,h1 with
   | [x],_=> rfl
  have HTR:=gi htr;have HOK:=gi hok
  generalize kids[0]=m at *
  obtain ⟨m0,hm0⟩:∃ m0,m0=m:=⟨_,rfl⟩;rw [←hm0] at HTR HOK HBLK;have HM:=gi hm0;clear hm0;obtain ⟨op1,sa1,sc1,set1,ka1,kc1,kids1,mn1,mx1,mode1,n1,neg1⟩:=m;have g:=hx0.node;rw [Nat.zero_mul,Nat.add_zero] at g;obtain ⟨c0,c1,c2,c3,c4,c5,c6,c7⟩:=id g;clear g hx0 htr hok hx;have hlen:(kids.length:Int)=1:=by omega
  go_enter Tryz.func121,Tryz.ntmps121
  go_upto_region 2 with fail
  go_wp2_with (refine wpList_store_row rfl 26 (.tmp 4) (.tmp 10) rfl w.heap.size #[H J op1,M sa1 set1.length sc1,M ka1 kids1.length kc1,H J mn1,H J mx1,H J mode1,H J n1,F neg1] rfl rfl 26 #[H J 0,M none 0 0,M none 0 0,H J 0,H J 0,H J 0,H J 0,F false] (heap_alloc_new w _) sizeRe rfl (row8_one _ _ _ _ _ _ _ _ _ _ _ _) ?_)
  have hR:=setRow_heap (w.alloc (.cells #[H J 0,M none 0 0,M none 0 0,H J 0,H J 0,H J 0,H J 0,F false] 26)) w.heap.size _ #[H J op1,M sa1 set1.length sc1,M ka1 kids1.length kc1,H J mn1,H J mx1,H J mode1,H J n1,F neg1] 26 (0,0) (heap_alloc_new w _);refine rc hR ?_;have kk:Keeps [] w ((w.alloc (.cells #[H J 0,M none 0 0,M none 0 0,H J 0,H J 0,H J 0,H J 0,F false] 26)).setRow w.heap.size #[H J op1,M sa1 set1.length sc1,M ka1 kids1.length kc1,H J mn1,H J mx1,H J mode1,H J n1,F neg1]):=((Keeps.refl [] w).alloc _).setRow (.inr (Nat.le_refl _)) _;refine ⟨m0,by rw [HM.o];rfl,by rw [HTR.o],HOK.o.keep kk,kk,HBLK.o⟩
 ·have htr:naryT op (MRe.trees kids)=.node op [] (MRe.trees kids) 0 0 0 0 false:=by
   match kids,h1 with
   | [],_=> rfl
   | x::y::r,_=> rfl
  have HTR:=gi htr;clear htr;have hcap:=HK.o.nodes.cap;have hle:=HK.o.nodes.le;unfold maxLen at hcap;go_enter Tryz.func121,Tryz.ntmps121
  go_wp2;refine bodyPost_ret (results_cell_row rfl _ _ w.heap.size 26 #[H J op,M none 0 0,M ka kids.length kc,H J 0,H J 0,H J 0,H J 0,F false] (0,0) _ rfl (heap_alloc_new w _) Tryz.underlying26 rfl sizeRe) rfl ?_;exact ⟨.node op none 0 [] ka kc kids 0 0 0 0 false,rfl,by rw [HTR.o];rfl,.of (SpansIn.nil _) (HK.o.keep (Keeps.a1 _ _)),Keeps.a1 _ _,fun b hb=> by simpa [MRe.blocks,blockIf_nil] using hb⟩
def swapT (op:Int) (kids:List Tree) (i j:Nat) (l:List Tree):Tree:=naryT op (kids.take i ++ (l ++ kids.drop j))
theorem swap_any (m:MRe) (i j:Nat) (la:Option Addr) (lc:Nat) (l:List MRe) (w:World) (k1:m.OK w) (hl:KidsIn w la lc l) (hij:i≤j) (hj:j≤m.kids.length) (h0:0 < m.kids.length) (hb:m.kids.length + l.length≤1000000):
  Calls Tryz.prog 114 #[m.val,H J i,H J j,M la l.length lc] w fun e w'=> ∃ r:MRe,e=.returned (.tuple #[r.val,F true])∧r.tree=swapT m.tree.op m.tree.kids i j (MRe.trees l)∧r.OK w'∧Keeps [] w w'∧From w.heap.size (m.blocks ++ MRe.blocksL l) r.blocks:=by
 obtain ⟨op,sa,sc,set,ka,kc,kids,mn,mx,mode,n,neg⟩:=m;simp only [MRe.kids] at hj h0 hb;obtain ⟨b,off,rfl,hbb,_⟩:=k1.nodes.kid h0;have hcap:=k1.nodes.cap;have hle:=k1.nodes.le;unfold maxLen at hcap;have hd:=k1.nodes.drop j hj;have HK:=gi k1.kids;have HL:=gi hl;simp only [MRe.val];have hs1:∀ W:World,(Instr.sliceAt 24 (M (some ⟨b,off,none⟩) kids.length kc) none (some (H J i)) none).run Tryz.prog W=.ok (M (some ⟨b,off,none⟩) i kc) W:=by
  intro W;have q2:(i:Int)≤kc:=by omega
  simp [go_sem,q2]
 have hs2:∀ W:World,(Instr.sliceAt 24 (M (some ⟨b,off,none⟩) kids.length kc) (some (H J j)) none none).run Tryz.prog W=.ok (M (if kc=j then some ⟨b,off,none⟩ else some ⟨b,off + j * 8,none⟩) (kids.length - j) (kc - j)) W:=by
  intro W;have q1:(j:Int)≤kids.length:=by omega
  simp [go_sem,q1]
 obtain ⟨ja,hja⟩:∃ ja,ja=(if kc=j then some (⟨b,off,none⟩:Addr) else some ⟨b,off + j * 8,none⟩):=⟨_,rfl⟩;rw [←hja] at hd hs2;obtain ⟨parts,hparts⟩:∃ parts:List Part,parts=[⟨some ⟨b,off,none⟩,kc,kids.take i⟩,⟨la,lc,l⟩,⟨ja,kc - j,kids.drop j⟩]:=⟨_,rfl⟩;have hpk:parts.flatMap Part.kids=kids.take i ++ (l ++ kids.drop j):=by rw [hparts];simp
 have hpt:total parts≤1000000:=by unfold total;rw [hpk];simp only [List.length_append,List.length_take,List.length_drop];omega
 have hpo:∀ p∈parts,KidsIn w p.ka p.kc p.kids:=by
  intro p hp;rw [hparts] at hp;simp only [List.mem_cons,List.not_mem_nil,or_false] at hp
  rcases hp with rfl | rfl | rfl
  ·exact ⟨k1.nodes.take i,fun x hx=> k1.kid (List.mem_of_mem_take hx)⟩
  ·exact hl
  ·exact ⟨hd,fun x hx=> k1.kid (List.mem_of_mem_drop hx)⟩
 have hCON:∀ X:World,Keeps [] w X→Calls Tryz.prog 141 #[M (some ⟨X.heap.size,0,none⟩) 3 3] (X.alloc (.cells #[M (some ⟨b,off,none⟩) i kc,M la l.length lc,M ja (kids.length - j) (kc - j)] 24)).drew fun e w'=> ∃ a' c',e=.returned (sv a' (total parts) c')∧KidsIn w' (a'.map fun g=> ⟨g,0,none⟩) c' (kids.take i ++ (l ++ kids.drop j))∧Keeps [] X w'∧(∀ g,a'=some g→X.heap.size≤g):=by
  intro X hX;have hkk:Keeps [] X (X.alloc (.cells #[M (some ⟨b,off,none⟩) i kc,M la l.length lc,M ja (kids.length - j) (kc - j)] 24)).drew:=(Keeps.a1 X _).drew;have h:=concat_any X.heap.size parts (X.alloc (.cells #[M (some ⟨b,off,none⟩) i kc,M la l.length lc,M ja (kids.length - j) (kc - j)] 24)).drew ?_ (fun p hp=> (hpo p hp).keep (hX.trans hkk)) hpt (by rw [hparts];simp)
  ·rw [hpk] at h;rw [show parts.length=3 by rw [hparts];rfl] at h;exact h.mono fun e w' ⟨a',c',he,hk,hkp,hf⟩=> ⟨a',c',he,hk,hkk.trans hkp,fun g hg=> Nat.le_trans hkk.size (hf g hg)⟩
  ·intro q hq;subst hparts;have hc:=fun q=> cell_new X #[M (some ⟨b,off,none⟩) i kc,M la l.length lc,M ja (kids.length - j) (kc - j)] 24 q;simp only [List.length_cons,List.length_nil] at hq
   show (X.alloc _).cell? _=_
   rw [hc];obtain rfl | rfl | rfl:q=0∨q=1∨q=2:=by omega
   ·have:(kids.take i).length=i:=by rw [List.length_take];omega
    simp [Part.val,this]
   ·simp [Part.val]
   ·simp [Part.val]
 have HCON:=gi hCON;have htr:swapT op (MRe.trees kids) i j (MRe.trees l)=naryT op (MRe.trees (kids.take i ++ (l ++ kids.drop j))):=by
  unfold swapT
  congr 1
  simp [MRe.trees_eq]
 have HTR:=gi htr;have hbk:∀ q∈MRe.blocksL (kids.take i ++ (l ++ kids.drop j)),q∈(MRe.node op sa sc set (some ⟨b,off,none⟩) kc kids mn mx mode n neg).blocks ++ MRe.blocksL l:=fun x hx=> by
  obtain ⟨y,hy,hxy⟩:=MRe.blocksL_mem hx
  rcases List.mem_append.1 hy with hy | hy
  ·exact List.mem_append_left _ (blocks_kid (List.mem_of_mem_take hy) x hxy)
  ·rcases List.mem_append.1 hy with hy | hy
   ·exact List.mem_append_right _ (MRe.mem_blocksL hy hxy)
   ·exact List.mem_append_left _ (blocks_kid (List.mem_of_mem_drop hy) x hxy)
 have hlt:∀ q∈(MRe.node op sa sc set (some ⟨b,off,none⟩) kc kids mn mx mode n neg).blocks ++ MRe.blocksL l,q < w.heap.size:=fun x hx=> by
  rcases List.mem_append.1 hx with hx | hx
  ·exact k1.block_lt x hx
  ·exact hl.block_lt x hx
 have HBK:=gi hbk;have HLT:=gi hlt;clear hbk hlt;have hpt2:total parts=(kids.take i ++ (l ++ kids.drop j)).length:=by unfold total;rw [hpk]
 rw [hpt2] at HCON;clear hCON hpo hpk hpt hpt2 hparts htr hd k1 hl hja
 generalize kids.take i ++ (l ++ kids.drop j)=ks at *
 obtain ⟨src,hsrc⟩:∃ src,src=(MRe.node op sa sc set (some ⟨b,off,none⟩) kc kids mn mx mode n neg).blocks ++ MRe.blocksL l:=⟨_,rfl⟩;rw [←hsrc] at HBK HLT ⊢;clear hsrc;go_enter Tryz.func114,Tryz.ntmps114
 go_upto_region 1 with fail
 have x0:=(Keeps.a1 (w.alloc (.cells #[H J op,M sa set.length sc,M (some ⟨b,off,none⟩) kids.length kc,H J mn,H J mx,H J mode,H J n,F neg] 26)) (.cells #[H J 0,M none 0 0,M none 0 0,H J 0,H J 0,H J 0,H J 0,F false] 26)).cell (cell_new w #[H J op,M sa set.length sc,M (some ⟨b,off,none⟩) kids.length kc,H J mn,H J mx,H J mode,H J n,F neg] 26 0) (by simp);have x2:=(Keeps.a1 (w.alloc (.cells #[H J op,M sa set.length sc,M (some ⟨b,off,none⟩) kids.length kc,H J mn,H J mx,H J mode,H J n,F neg] 26)) (.cells #[H J 0,M none 0 0,M none 0 0,H J 0,H J 0,H J 0,H J 0,F false] 26)).cell (cell_new w #[H J op,M sa set.length sc,M (some ⟨b,off,none⟩) kids.length kc,H J mn,H J mx,H J mode,H J n,F neg] 26 2) (by simp);have hz:=heap_alloc2_new w (.cells #[H J op,M sa set.length sc,M (some ⟨b,off,none⟩) kids.length kc,H J mn,H J mx,H J mode,H J n,F neg] 26) (.cells #[H J 0,M none 0 0,M none 0 0,H J 0,H J 0,H J 0,H J 0,F false] 26);have hkX:=Keeps.a2 w (.cells #[H J op,M sa set.length sc,M (some ⟨b,off,none⟩) kids.length kc,H J mn,H J mx,H J mode,H J n,F neg] 26) (.cells #[H J 0,M none 0 0,M none 0 0,H J 0,H J 0,H J 0,H J 0,F false] 26);obtain ⟨B,hB⟩:∃ B,B=w.heap.size:=⟨_,rfl⟩;rw [←hB] at x0 x2 hz ⊢;have hBw:w.heap.size=B:=by omega
 have hXs:B + 2≤((w.alloc (.cells #[H J op,M sa set.length sc,M (some ⟨b,off,none⟩) kids.length kc,H J mn,H J mx,H J mode,H J n,F neg] 26)).alloc (.cells #[H J 0,M none 0 0,M none 0 0,H J 0,H J 0,H J 0,H J 0,F false] 26)).heap.size:=by simp;omega
 generalize (w.alloc (.cells #[H J op,M sa set.length sc,M (some ⟨b,off,none⟩) kids.length kc,H J mn,H J mx,H J mode,H J n,F neg] 26)).alloc (.cells #[H J 0,M none 0 0,M none 0 0,H J 0,H J 0,H J 0,H J 0,F false] 26)=X at *
 replace x0:X.cell? ⟨B,0,none⟩=some (H J op):=x0;replace x2:X.cell? ⟨B,2,none⟩=some (M (some ⟨b,off,none⟩) kids.length kc):=x2;have HZ:=gi hz;have HX:=gi hkX;have HBW:=gi hBw;clear hz hkX hB hBw
 go_region_held3 (fun w'=> w'.cell? ⟨B,0,none⟩=some (H J op)∧w'.cell? ⟨B,2,none⟩=some (M (some ⟨b,off,none⟩) kids.length kc))
  (with_reducible first | exact ⟨((Keeps.refl [] X).drew).c x0,((Keeps.refl [] X).drew).c x2⟩ | exact ⟨E1.o.c x0,E1.o.c x2⟩ | exact ⟨E2.o.c x0,E2.o.c x2⟩ | exact ⟨((Keeps.refl [] X).alloc _).drew.c x0,((Keeps.refl [] X).alloc _).drew.c x2⟩ | exact ⟨E3.o.c x0,E3.o.c x2⟩ | fail)
  (first
   | (go_at_call 141;refine Calls.mono (HCON.o X HX.o) ?_;rintro e w3 ⟨a3,c3,rfl,hks,hk3,hf3⟩;have E1:=gi hk3;have HKS:=gi hks;have HF3:=gi hf3;simp only [sv];clear hks hk3 hf3)
   | (go_at_call 121;refine Calls.mono (nary_any op (a3.map fun g=> ⟨g,0,none⟩) c3 ks w3 HKS.o) ?_;rintro e w4 ⟨r,rfl,hrt,hro,hk4,hrb⟩;have E2:=gi (E1.o.trans hk4);have HRT:=gi hrt;have HRO:=gi hro;have HRB:=gi hrb;have HZ4:=gi ((E1.o.trans hk4).h HZ.o);obtain ⟨r0,hr0⟩:∃ r0,r0=r:=⟨_,rfl⟩;rw [←hr0] at HRT HRO HRB;have HR0:=gi hr0;clear hrt hro hk4 hr0 hrb;obtain ⟨op9,sa9,sc9,set9,ka9,kc9,kids9,mn9,mx9,mode9,n9,neg9⟩:=r;simp only [MRe.val];obtain ⟨z0,z1,z2,z3,z4,z5,z6,z7,zf⟩:=zero_cells HZ4.o;have E3:=gi (show Keeps [B + 1] X (set8 w4 (B + 1) (H J op9) (M sa9 set9.length sc9) (M ka9 kids9.length kc9) (H J mn9) (H J mx9) (H J mode9) (H J n9) (F neg9)) from (E2.o.mono (by simp)).trans (set8_keeps _ _ _ _ _ _ _ _ _ _))))
 have hR:=set8_heap HZ4.o (H J op9) (M sa9 set9.length sc9) (M ka9 kids9.length kc9) (H J mn9) (H J mx9) (H J mode9) (H J n9) (F neg9);have hro:From w.heap.size src r0.blocks:=fun x hx=> by
  rcases List.mem_append.1 (HRB.o x hx) with h | h
  ·have:=(Fresh.blockIf_map HF3.o) x h
   rw [HBW.o];exact .inr (by omega)
  ·exact .inl (HBK.o x h)
 have hnb:∀ x∈r0.blocks,x ∉ [B + 1]:=fun x hx=> by
  have hbw:=HBW.o
  rcases List.mem_append.1 (HRB.o x hx) with h | h
  ·have:=(Fresh.blockIf_map HF3.o) x h
   simp;omega
  ·have:=HLT.o x (HBK.o x h)
   simp;omega
 have hok:=HRO.o.keepS (set8_keeps w4 (B + 1) (H J op9) (M sa9 set9.length sc9) (M ka9 kids9.length kc9) (H J mn9) (H J mx9) (H J mode9) (H J n9) (F neg9)) hnb;have hke:=HX.o.after E3.o (by intro x hx;simp at hx;subst hx;exact .inr (by rw [HBW.o];omega));have HR:=gi hR;have HOK:=gi hok;have HKE:=gi hke;have HFR:=gi hro;clear hR hok hke hro hnb z0 z1 z2 z3 z4 z5 z6 z7 zf;go_wp2;refine rt HR.o ?_;refine ⟨r0,by rw [HR0.o];rfl,by rw [HRT.o];exact HTR.o.symm,HOK.o,HKE.o,HFR.o⟩
mutual
def nullP:Tree→Bool
 | .node op _ kids mn _ _ _ _=>
  if op=0∨op=6∨op=7∨op=8∨op=11 then true
  else if op=2 then nullAll kids
  else if op=4∧mn=0 then true
  else if op=4∨op=3∨op=10∨op=5∨op=9 then nullAny kids
  else false
def nullAll:List Tree→Bool
 | []=> true
 | k::ks=> nullP k && nullAll ks
def nullAny:List Tree→Bool
 | []=> false
 | k::ks=> nullP k || nullAny ks
end
theorem nullWalk_any (m:MRe):∀ (b o c:Nat) (w:World),At8 w b o m→m.OK w→w.cell? ⟨c,0,none⟩=some (.func (Fn.func 71) #[] #[.pointer (some ⟨c,0,none⟩)])→
  Calls Tryz.prog 71 #[.pointer (some ⟨b,o,none⟩),.pointer (some ⟨c,0,none⟩)] w fun e w'=> e=.returned (F (nullP m.tree))∧Keeps [] w w':=by
 induction m using MRe.induct with
 | h op sa sc set ka kc kids mn mx mode n neg ih=>
  intro b o c w h1 k1 hc;have a0:=h1.node.c0;have a2:=h1.node.c2;have a3:=h1.node.c3;have hn1:=k1.nodes.le;have hN1:=k1.nodes.cap;unfold maxLen at hN1;have HK1:=gi k1.kids;have HI:=gi ih;have hT:nullP (MRe.node op sa sc set ka kc kids mn mx mode n neg).tree=nullP (.node op set (MRe.trees kids) mn mx mode n neg):=rfl;rw [hT];clear ih h1 k1 hT
  by_cases hA:op=0∨op=6∨op=7∨op=8∨op=11
  ·have hR:nullP (.node op set (MRe.trees kids) mn mx mode n neg)=true:=by rw [nullP,if_pos hA]
   rw [hR]
   rcases hA with rfl | rfl | rfl | rfl | rfl
   all_goals
    go_enter Tryz.func71,Tryz.ntmps71
    go_wp2;go_ret;exact ⟨rfl,Keeps.refl _ _⟩
  ·by_cases hB:op=2
   ·have hR:nullP (.node op set (MRe.trees kids) mn mx mode n neg)=nullAll (MRe.trees kids):=by rw [nullP,if_neg hA,if_pos hB]
    rw [hR];subst hB;clear hA hR;go_enter Tryz.func71,Tryz.ntmps71
    go_wp2
    go_loopw [23] (fun i wr=> ∃ k:Nat,k≤kids.length∧i=H J k∧nullAll ((MRe.trees kids).drop k)=nullAll (MRe.trees kids)∧Keeps [] w wr) (fun i _=> kids.length - (intOf i).toNat)
    case atStart=> exact ⟨0,Nat.zero_le _,rfl,rfl,Keeps.refl _ _⟩
    case round=>
     obtain ⟨k,hk,rfl,hl,hkp⟩:=hrel;have HLL:=gi hl;have HK:=gi hkp
     by_cases hlt:k < kids.length
     ·obtain ⟨b',off,rfl,hb,hx⟩:=(HK1.o.keep hkp).nodes.kid (by omega);have x1:=hkp.c a2;have x3:=hkp.c hc;have hc1:=(HK1.o.keep hkp).all kids[k] (List.getElem_mem hlt);have HCALL:=gi (fun W (h:Keeps [] wr W)=> HI.o kids[k] (List.getElem_mem hlt) b' (off + k * 8) c W ((hx k hlt).keep h) (hc1.keep h) (h.c x3));have hd:nullAll (MRe.trees kids)=(nullP kids[k].tree && nullAll ((MRe.trees kids).drop (k + 1))):=by rw [←hl,trees_drop kids k hlt,nullAll]
      obtain ⟨q,hq⟩:∃ q,q=nullP kids[k].tree:=⟨_,rfl⟩;rw [←hq] at hd HCALL;have HD:=gi hd;clear hq hd hc1 hx hl hkp HI;go_wp2
      go_region_held3 (fun w'=> w'.cell? ⟨c,0,none⟩=some (.func (Fn.func 71) #[] #[.pointer (some ⟨c,0,none⟩)])∧w'.cell? ⟨b,o + 2,none⟩=some (M (some ⟨b',off,none⟩) kids.length kc))
       (first | exact ⟨x3,x1⟩ | exact ⟨E1.o.c x3,E1.o.c x1⟩)
       (first
        | (go_at_call 71;refine Calls.mono (HCALL.o _ ((Keeps.refl [] wr).drew)) ?_;rintro e w3 ⟨rfl,hk3⟩;have E1:=gi (((Keeps.refl [] wr).drew).trans hk3);clear hk3))
      have HK3:=gi (HK.o.trans E1.o);clear x1 x3 E1 HCALL
      cases q with
      | true=>
       have HDE:=gi (HD.o.trans (Bool.true_and _));clear HD;go_wp2;go_roundw
       case rel=> exact ⟨k + 1,by omega,by go_num,HDE.o.symm,HK3.o⟩
       case measure=> simp [intOf];omega
      | false=>
       have HDE:=gi (HD.o.trans (Bool.false_and _));clear HD;go_wp2;go_ret;exact ⟨by rw [HDE.o];rfl,HK3.o⟩
     ·obtain rfl:k=kids.length:=by omega
      have h0:nullAll (MRe.trees kids)=true:=by rw [←hl,List.drop_of_length_le (by rw [MRe.trees_length];omega)];rfl
      have HH0:=gi h0;clear hl hkp h0;go_wp2;go_ret;exact ⟨by rw [HH0.o];rfl,HK.o⟩
   ·by_cases hC:op=4∧mn=0
    ·have hR:nullP (.node op set (MRe.trees kids) mn mx mode n neg)=true:=by rw [nullP,if_neg hA,if_neg hB,if_pos hC]
     rw [hR];obtain ⟨rfl,rfl⟩:=hC;go_enter Tryz.func71,Tryz.ntmps71
     go_wp2;go_ret;exact ⟨rfl,Keeps.refl _ _⟩
    ·by_cases hD:op=4∨op=3∨op=10∨op=5∨op=9
     ·have hR:nullP (.node op set (MRe.trees kids) mn mx mode n neg)=nullAny (MRe.trees kids):=by rw [nullP,if_neg hA,if_neg hB,if_neg hC,if_pos hD]
      rw [hR];have hmn:op=4→¬ mn=0:=fun h h'=> hC ⟨h,h'⟩;clear hA hR hB hC
      rcases hD with rfl | rfl | rfl | rfl | rfl
      all_goals
       first | (have hmb:(mn==0)=false:=by simpa using hmn rfl) | skip
       clear hmn;go_enter Tryz.func71,Tryz.ntmps71
       go_wp2
       go_loopw [53] (fun i wr=> ∃ k:Nat,k≤kids.length∧i=H J k∧nullAny ((MRe.trees kids).drop k)=nullAny (MRe.trees kids)∧Keeps [] w wr) (fun i _=> kids.length - (intOf i).toNat)
       case atStart=> exact ⟨0,Nat.zero_le _,rfl,rfl,Keeps.refl _ _⟩
       case round=>
        obtain ⟨k,hk,rfl,hl,hkp⟩:=hrel;have HLL:=gi hl;have HK:=gi hkp
        by_cases hlt:k < kids.length
        ·obtain ⟨b',off,rfl,hb,hx⟩:=(HK1.o.keep hkp).nodes.kid (by omega);have x1:=hkp.c a2;have x3:=hkp.c hc;have hc1:=(HK1.o.keep hkp).all kids[k] (List.getElem_mem hlt);have HCALL:=gi (fun W (h:Keeps [] wr W)=> HI.o kids[k] (List.getElem_mem hlt) b' (off + k * 8) c W ((hx k hlt).keep h) (hc1.keep h) (h.c x3));have hd:nullAny (MRe.trees kids)=(nullP kids[k].tree || nullAny ((MRe.trees kids).drop (k + 1))):=by rw [←hl,trees_drop kids k hlt,nullAny]
         obtain ⟨q,hq⟩:∃ q,q=nullP kids[k].tree:=⟨_,rfl⟩;rw [←hq] at hd HCALL;have HD:=gi hd;clear hq hd hc1 hx hl hkp HI;go_wp2
         go_region_held3 (fun w'=> w'.cell? ⟨c,0,none⟩=some (.func (Fn.func 71) #[] #[.pointer (some ⟨c,0,none⟩)])∧w'.cell? ⟨b,o + 2,none⟩=some (M (some ⟨b',off,none⟩) kids.length kc))
          (first | exact ⟨x3,x1⟩ | exact ⟨E1.o.c x3,E1.o.c x1⟩)
          (first
           | (go_at_call 71;refine Calls.mono (HCALL.o _ ((Keeps.refl [] wr).drew)) ?_;rintro e w3 ⟨rfl,hk3⟩;have E1:=gi (((Keeps.refl [] wr).drew).trans hk3);clear hk3))
         have HK3:=gi (HK.o.trans E1.o);clear x1 x3 E1 HCALL
         cases q with
         | false=>
          have HDE:=gi (HD.o.trans (Bool.false_or _));clear HD;go_wp2;go_roundw
          case rel=> exact ⟨k + 1,by omega,by go_num,HDE.o.symm,HK3.o⟩
          case measure=> simp [intOf];omega
         | true=>
          have HDE:=gi (HD.o.trans (Bool.true_or _));clear HD;go_wp2;go_ret;exact ⟨by rw [HDE.o];rfl,HK3.o⟩
        ·obtain rfl:k=kids.length:=by omega
         have h0:nullAny (MRe.trees kids)=false:=by rw [←hl,List.drop_of_length_le (by rw [MRe.trees_length];omega)];rfl
         have HH0:=gi h0;clear hl hkp h0;go_wp2;go_ret;exact ⟨by rw [HH0.o];rfl,HK.o⟩
     ·have hR:nullP (.node op set (MRe.trees kids) mn mx mode n neg)=false:=by rw [nullP,if_neg hA,if_neg hB,if_neg hC,if_neg hD]
      rw [hR];simp only [not_or] at hA hD;obtain ⟨n0,n6,n7,n8,n11⟩:=hA;obtain ⟨n4,n3,n10,n5,n9⟩:=hD;clear hR hC;go_enter Tryz.func71,Tryz.ntmps71
      go_wp2;go_ret;exact ⟨rfl,Keeps.refl _ _⟩
theorem null_any (m:MRe) (w:World) (k1:m.OK w):
  Calls Tryz.prog 35 #[m.val] w fun e w'=> e=.returned (F (nullP m.tree))∧Keeps [] w w':=by
 have HW:=gi (nullWalk_any m);have HK1:=gi k1;obtain ⟨r1,hr1⟩:∃ r,r=m:=⟨_,rfl⟩;obtain ⟨op1,sa1,sc1,set1,ka1,kc1,kids1,mn1,mx1,mode1,n1,neg1⟩:=m;simp only [MRe.val];have hmf:∀ (fn:Fn) (first cap:Array Value) (w:World),(Instr.makeFunc fn first cap).run Tryz.prog w=.ok (.func fn first cap) w:=fun _ _ _ _=> rfl;rw [←hr1] at HW HK1 ⊢;have R1:r1.row=[H J op1,M sa1 set1.length sc1,M ka1 kids1.length kc1,H J mn1,H J mx1,H J mode1,H J n1,F neg1]:=by rw [hr1];rfl
 have HR1:=gi R1;clear hr1 R1 k1;go_enter Tryz.func35,Tryz.ntmps35
 go_wp2_with fail
 refine Calls.mono (HW.o w.heap.size 0 (w.heap.size + 1) _ ?_ ?_ ?_) ?_
 ·exact At8.keep (At8.box HR1.o.symm) (Keeps.a1 _ _)
 ·exact HK1.o.keep (Keeps.a2 w _ _)
 ·simp
 rintro e w2 ⟨rfl,hk⟩;have HK:=gi ((Keeps.a2 w _ _).trans hk);clear hk;go_wp2;go_ret;exact ⟨rfl,HK.o⟩
def idxI (p:Tree→Bool) (l:List Tree):Int:=match l.findIdx? p with | none=> -1 | some i=> i
theorem idxI_none {p:Tree→Bool} {l:List Tree} (h:∀ x∈l,p x=false):idxI p l= -1:=by
 unfold idxI;rw [List.findIdx?_eq_none_iff.2 h]
theorem idxI_some {p:Tree→Bool} {l:List Tree} {k:Nat} (hk:k < l.length) (h:∀ x∈l.take k,p x=false) (hp:p l[k]=true):idxI p l=k:=by
 unfold idxI
 have:l.findIdx? p=some k:=by
  rw [List.findIdx?_eq_some_iff_getElem];refine ⟨hk,hp,fun j hj=> ?_⟩
  have:=h l[j] (by rw [List.mem_take_iff_getElem];exact ⟨j,by omega,rfl⟩)
  simp [this]
 rw [this]
theorem idxI_neg {p:Tree→Bool} {l:List Tree}:idxI p l < 0↔∀ x∈l,p x=false:=by
 unfold idxI
 cases h:l.findIdx? p with
 | none=> simp only [List.findIdx?_eq_none_iff] at h;exact ⟨fun _=> h,fun _=> by decide⟩
 | some i=>
  refine ⟨fun hh=> by simp only at hh;omega,fun hh=> ?_⟩;rw [List.findIdx?_eq_none_iff.2 hh] at h
  cases h
theorem idxI_any {p:Tree→Bool} {l:List Tree}:decide (0≤idxI p l)=l.any p:=by
 by_cases h:∀ x∈l,p x=false
 ·have h1:=idxI_neg.2 h
  have:l.any p=false:=by simpa using h
  rw [this,decide_eq_false_iff_not];omega
 ·have h1:¬ idxI p l < 0:=fun hh=> h (idxI_neg.1 hh)
  have:l.any p=true:=by
   rw [List.any_eq_true];simp only [Classical.not_forall,Bool.not_eq_false] at h;obtain ⟨x,hx,hp⟩:=h;exact ⟨x,hx,hp⟩
  rw [this,decide_eq_true_iff];omega
theorem trees_getElem (l:List MRe) (k:Nat) (h:k < l.length):(MRe.trees l)[k]'(by rw [MRe.trees_length];exact h)=l[k].tree:=by simp [MRe.trees_eq]
theorem take_all {p:Tree→Bool} {l:List Tree} {k:Nat} (hk:k < l.length) (h:∀ x∈l.take k,p x=false) (hp:p l[k]=false):∀ x∈l.take (k + 1),p x=false:=by
 intro x hx;rw [List.take_succ_eq_append_getElem hk] at hx
 rcases List.mem_append.1 hx with hx | hx
 ·exact h x hx
 ·simp at hx;subst hx;exact hp
def Enters (K:Nat):Prop:=∀ (args:Array Value) (w:World),(callFunc K args).run Tryz.prog w=.ok (.enter K args) w
theorem enters_of {K : Nat} {fn : Func} {c : Code} (hf : Tryz.prog.funcs[K]? = some fn) (hname : (fn.name == "runtime.NumGoroutine") = false) (hb : fn.body = some c) : Enters K := fun args w => by
 have h1 : fn.name ≠ "runtime.NumGoroutine" := by simpa using hname
 simp [callFunc,hf,h1,hb]
theorem indexFunc_any (K:Nat) (cap:Array Value) (p:Tree→Bool) (ka:Option Addr) (kc:Nat) (kids:List MRe) (w:World) (he:Enters K) (hk:KidsIn w ka kc kids)
  (hf:∀ k∈kids,∀ W,Keeps [] w W→Calls Tryz.prog K (#[k.val] ++ cap) W fun e w'=> e=.returned (F (p k.tree))∧Keeps [] W w'):
  Calls Tryz.prog 112 #[M ka kids.length kc,.func (Fn.func K) #[] cap] w fun e w'=> e=.returned (H J (idxI p (MRe.trees kids)))∧Keeps [] w w':=by
 have hcap:=hk.nodes.cap;have hle:=hk.nodes.le;unfold maxLen at hcap;have HK:=gi hk;have HF:=gi hf;unfold Enters at he;clear hk hf;go_enter Tryz.func112,Tryz.ntmps112
 go_wp2
 go_loopw [8] (fun i wr=> ∃ k:Nat,k≤kids.length∧i=H J k∧(∀ x∈(MRe.trees kids).take k,p x=false)∧Keeps [] w wr) (fun i _=> kids.length - (intOf i).toNat)
 case atStart=> exact ⟨0,Nat.zero_le _,rfl,by simp,Keeps.refl _ _⟩
 case round=>
  obtain ⟨k,hkk,rfl,hpk,hkp⟩:=hrel;have HP:=gi hpk;have HKP:=gi hkp
  by_cases hlt:k < kids.length
  ·obtain ⟨b,off,rfl,hb,hx⟩:=(HK.o.keep hkp).nodes.kid (by omega);have hx0:=hx k hlt;have HC:=gi (HF.o kids[k] (List.getElem_mem hlt) wr hkp);have hlt':k < (MRe.trees kids).length:=by rw [MRe.trees_length];exact hlt
   have hsome:=fun h=> idxI_some (p:=p) hlt' HP.o h;have hall:=fun h=> take_all (p:=p) hlt' HP.o h;rw [trees_getElem kids k hlt] at hsome hall;have HSO:=gi hsome;have HAL:=gi hall
   generalize kids[k]=m at *
   obtain ⟨q,hq⟩:∃ q,q=p m.tree:=⟨_,rfl⟩;rw [←hq] at HC HSO HAL;obtain ⟨op1,sa1,sc1,set1,ka1,kc1,kids1,mn1,mx1,mode1,n1,neg1⟩:=m;have g:=hx0.node;obtain ⟨c0,c1,c2,c3,c4,c5,c6,c7⟩:=id g;simp only [MRe.val] at HC;clear g hx0 hx hpk hkp hq hsome hall HF
   cases q with
   | true=>
    go_wp2_with fail
    refine Calls.mono HC.o ?_;rintro e w2 ⟨rfl,hk2⟩;have HK2:=gi (HKP.o.trans hk2);clear hk2;go_wp2;go_ret;exact ⟨by rw [HSO.o (by simp)];rfl,HK2.o⟩
   | false=>
    go_wp2_with fail
    refine Calls.mono HC.o ?_;rintro e w2 ⟨rfl,hk2⟩;have HK2:=gi (HKP.o.trans hk2);clear hk2;go_wp2;go_roundw
    case rel=> exact ⟨k + 1,by omega,by go_num,HAL.o (by simp),HK2.o⟩
    case measure=> simp [intOf];omega
  ·obtain rfl:k=kids.length:=by omega
   have h0:idxI p (MRe.trees kids)= -1:=idxI_none (by rw [←MRe.trees_length,List.take_length] at hpk;exact hpk);have H0:=gi h0;clear hpk hkp h0;go_wp2;go_ret;exact ⟨by rw [H0.o];rfl,HKP.o⟩
theorem containsFunc_any (K:Nat) (cap:Array Value) (p:Tree→Bool) (ka:Option Addr) (kc:Nat) (kids:List MRe) (w:World) (he:Enters K) (hk:KidsIn w ka kc kids)
  (hf:∀ k∈kids,∀ W,Keeps [] w W→Calls Tryz.prog K (#[k.val] ++ cap) W fun e w'=> e=.returned (F (p k.tree))∧Keeps [] W w'):
  Calls Tryz.prog 115 #[M ka kids.length kc,.func (Fn.func K) #[] cap] w fun e w'=> e=.returned (F ((MRe.trees kids).any p))∧Keeps [] w w':=by
 have HI:=gi (indexFunc_any K cap p ka kc kids w he hk hf);have ha:=idxI_any (p:=p) (l:=MRe.trees kids);obtain ⟨q,hq⟩:∃ q,q=idxI p (MRe.trees kids):=⟨_,rfl⟩;rw [←hq] at HI ha;have HA:=gi ha;clear hk hf ha hq he;go_enter Tryz.func115,Tryz.ntmps115
 go_wp2_with fail
 refine Calls.mono HI.o ?_;rintro e w2 ⟨rfl,hk2⟩;have HK2:=gi hk2;clear hk2;go_wp2;go_ret;exact ⟨by rw [←HA.o];rfl,HK2.o⟩
mutual
def singleT:Tree→Bool
 | .node op _ kids mn mx mode _ _=>
  if op=3 then false
  else if op=2∨op=10∨op=5 then singleAll kids
  else if op=4 then mode==2 || (mn==mx && singleHd kids)
  else true
def singleAll:List Tree→Bool
 | []=> true
 | k::ks=> singleT k && singleAll ks
def singleHd:List Tree→Bool
 | []=> false
 | k::_=> singleT k
end
theorem singleAll_any (l:List Tree):(!(l.any fun t=> !singleT t))=singleAll l:=by
 induction l with
 | nil=> rfl
 | cons x xs ih=> simp only [List.any_cons,singleAll,←ih];cases singleT x <;> simp
theorem enters_single1:Enters 143:=enters_of Tryz.func143 (by kernel_rfl) rfl
end Go.Proofs.YtjnlkjlbejelgaaGreat
