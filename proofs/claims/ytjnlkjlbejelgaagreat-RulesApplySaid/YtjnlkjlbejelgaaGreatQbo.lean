/- Part 41 of the proof. No condition: every lemma says its own. -/
import Derived.Test.YtjnlkjlbejelgaaGreatQbn
import Derived.Test.YtjnlkjlbejelgaaGreatQav
import Derived.Test.YtjnlkjlbejelgaaGreatQal
import Derived.Test.YtjnlkjlbejelgaaGreatQbh
import Derived.Test.YtjnlkjlbejelgaaGreatQbg
import Derived.Test.YtjnlkjlbejelgaaGreatQba
import Derived.Test.YtjnlkjlbejelgaaGreatQar
import Derived.Test.YtjnlkjlbejelgaaGreatQao
namespace Go.Proofs.YtjnlkjlbejelgaaGreat
open Go.RowKit
open Go.Value renaming int→H,slice→M,bool→F
open Go.IntKind renaming i64→J
set_option maxRecDepth 100000
set_option maxHeartbeats 16000000
theorem IntsIn.src {w:World} {pa:Option Addr} {xs:List Int} (h:IntsIn w pa xs):0 < xs.length→∃ ad,pa=some ad∧∀ j u,(xs.map (H J))[j]? =some u→w.cell? (ad.add j)=some u:=fun h0=> by
 obtain ⟨b,off,rfl,hc⟩:=h h0;refine ⟨⟨b,off,none⟩,rfl,fun j u hu=> ?_⟩;rw [List.getElem?_map] at hu;obtain ⟨x,hx,rfl⟩:=Option.map_eq_some_iff.1 hu;obtain ⟨hj,hx⟩:=List.getElem?_eq_some_iff.1 hx;rw [add_none,hc j hj,List.getD_eq_getElem?_getD,List.getElem?_eq_getElem hj,Option.getD_some,hx]
structure PRow where
 pa:Option Addr
 pc:Nat
 path:List Int
def PRow.v (r:PRow):Value:=M r.pa r.path.length r.pc
structure PathsAt (w:World) (a:Option Nat) (c:Nat) (rows:List PRow):Prop where
 sl:SliceAt w 22 1 a rows.length c (rows.map PRow.v)
 ints:∀ r∈rows,IntsIn w r.pa r.path∧r.path.length≤r.pc∧∀ ad,r.pa=some ad→ad.block < w.heap.size∧some ad.block≠a
theorem PathsAt.keep {w w':World} {a:Option Nat} {c:Nat} {rows:List PRow} (h:PathsAt w a c rows) (k:Keeps [] w w'):PathsAt w' a c rows:=
 ⟨h.sl.keep k (by simp),fun r hr=> ⟨(h.ints r hr).1.keepS k (fun _ _=> by simp),(h.ints r hr).2.1,fun ad had=> ⟨Nat.lt_of_lt_of_le ((h.ints r hr).2.2 ad had).1 k.size,((h.ints r hr).2.2 ad had).2⟩⟩⟩
theorem PathsAt.keepG {w w':World} {a:Option Nat} {c g:Nat} {rows:List PRow} (h:PathsAt w a c rows) (k:Keeps [g] w w') (hg:a≠some g) (hn:∀ r∈rows,∀ ad,r.pa=some ad→ad.block≠g):PathsAt w' a c rows:=
 ⟨h.sl.keep k (fun x hx hm=> by simp at hm;subst hm;exact hg hx),fun r hr=> ⟨(h.ints r hr).1.keepS k (fun ad had hm=> by simp at hm;exact hn r hr ad had hm),(h.ints r hr).2.1,fun ad had=> ⟨Nat.lt_of_lt_of_le ((h.ints r hr).2.2 ad had).1 k.size,((h.ints r hr).2.2 ad had).2⟩⟩⟩
theorem PathsAt.cell {w:World} {g:Nat} {c:Nat} {rows:List PRow} (h:PathsAt w (some g) c rows) (i:Nat) (hi:i < rows.length):w.cell? ⟨g,i,none⟩=some (M rows[i].pa rows[i].path.length rows[i].pc):=by
 rw [h.sl.cell i (by simpa using hi),List.getElem_map];rfl
theorem PathsAt.push {w w':World} {a:Option Nat} {g c c':Nat} {rows:List PRow} {r:PRow} (h:PathsAt w a c rows) (k:Keeps a.toList w w') (hg:a=some g∨w.heap.size≤g) (hs:SliceAt w' 22 1 (some g) (rows.length + 1) c' (rows.map PRow.v ++ [r.v]))
  (hr:IntsIn w' r.pa r.path) (hl:r.path.length≤r.pc) (hn:∀ ad,r.pa=some ad→ad.block < w.heap.size∧some ad.block≠a):PathsAt w' (some g) c' (rows ++ [r]):=by
 have hne:∀ b,b < w.heap.size→some b≠a→some b≠some g:=fun b h1 h2 h3=> by
  cases h3
  rcases hg with h | h
  ·exact h2 h.symm
  ·omega
 refine ⟨by simpa using hs,fun x hx=> ?_⟩
 rcases List.mem_append.1 hx with hx | hx
 ·obtain ⟨h1,h2,h3⟩:=h.ints x hx;refine ⟨h1.keepS k fun ad had hm=> ?_,h2,fun ad had=> ⟨Nat.lt_of_lt_of_le (h3 ad had).1 k.size,hne _ (h3 ad had).1 (h3 ad had).2⟩⟩;simp at hm;exact (h3 ad had).2 hm.symm
 ·simp at hx;subst hx;exact ⟨hr,hl,fun ad had=> ⟨Nat.lt_of_lt_of_le (hn ad had).1 k.size,hne _ (hn ad had).1 (hn ad had).2⟩⟩
def PathsPost (w:World) (t:Tree) (e:Ending) (w':World):Prop:=
 ∃ g c rows,e=.returned (M (some ⟨g,0,none⟩) (pathsT t).length c)∧rows.map PRow.path=pathsT t∧PathsAt w' (some g) c rows∧Keeps [] w w'∧w.heap.size≤g∧∀ r∈rows,∀ ad,r.pa=some ad→w.heap.size≤ad.block
theorem infoInts:(Tryz.prog.info? 22).map (fun i=> (i.zero,i.size,i.bytes))=some (some (M none 0 0),1,24):=by kernel_rfl
theorem rpaths_any (m:MRe):∀ (w:World),m.OK w→m.tree.bulk≤1000000→
  Calls Tryz.prog 9 #[m.val] w (PathsPost w m.tree):=by
 obtain ⟨i0,hi0,hz0,hz1,hz2⟩:=info_parts infoInt;have Hi:=gi hi0;have Hz0:=gi hz0;have Hz1:=gi hz1;have Hz2:=gi hz2;clear hi0 hz0 hz1 hz2;obtain ⟨j0,hi0,hz0,hz1,hz2⟩:=info_parts infoInts;have Ji:=gi hi0;have Jz0:=gi hz0;have Jz1:=gi hz1;have Jz2:=gi hz2;clear hi0 hz0 hz1 hz2
 induction m using MRe.induct with
 | h op sa sc set ka kc kids mn mx mode n neg ih=>
  intro w k1 hb;obtain ⟨R,hR0⟩:∃ R,R=pathsT (MRe.tree (.node op sa sc set ka kc kids mn mx mode n neg)):=⟨_,rfl⟩;have hlen:=paths_length (MRe.tree (.node op sa sc set ka kc kids mn mx mode n neg));have hsz:=(size_depth (MRe.tree (.node op sa sc set ka kc kids mn mx mode n neg))).1;unfold PathsPost;rw [←hR0] at hlen ⊢;replace hR0:R=[]::pathsTs 0 (MRe.trees kids):=by rw [hR0];simp only [MRe.tree,pathsT]
  have hRl:R.length≤1000000:=by omega
  have hRp:∀ p∈R,p.length≤1000000:=fun p hp=> by have:=hlen.2 p hp;omega
  have HRP:=gi hRp;have HR0:=gi hR0;have HRL:=gi hRl;obtain ⟨hbl,_,hbk⟩:=kids_bulk hb;have HI:=gi (fun k (hk:k∈kids) W (h:Keeps [] w W)=> ih k hk W ((k1.kid hk).keep h) (hbk k hk));have HK:=gi k1.kids;have hle:=k1.nodes.le;have hcap:=k1.nodes.cap;unfold maxLen at hcap;have HPRE:=gi (show ∀ k,k≤kids.length→∃ l,R=([]::pathsTs 0 ((MRe.trees kids).take k)) ++ l from fun k hk=> by
   have h1:∀ (l:List Tree) (i:Int) j,∃ q,pathsTs i l=pathsTs i (l.take j) ++ q:=by
    intro l
    induction l with
    | nil=> intro i j;exact ⟨[],by simp [pathsTs]⟩
    | cons x r ih2=>
     intro i j
     cases j with
     | zero=> exact ⟨_,rfl⟩
     | succ j=> obtain ⟨q,hq⟩:=ih2 (i + 1) j;exact ⟨q,by simp only [List.take_succ_cons,pathsTs,List.append_assoc];rw [←hq]⟩
   obtain ⟨q,hq⟩:=h1 (MRe.trees kids) 0 k;exact ⟨q,by rw [hR0,hq];rfl⟩)
  simp only [MRe.val];obtain ⟨B,Y,c0,c1,c2,c3,c4,c5,c6,c7,HYE,HBE,KY⟩:=pre1 w op sa sc set ka kc kids mn mx mode n neg;clear ih k1 hb hbk hR0 hlen hsz hRp;go_enter Tryz.func9,Tryz.ntmps9
  go_upto_region 1 with fail
  rw [←HYE.o,←HBE.o];go_wp2
  go_loopw [3,4,5,6] (fun v i _ _ wr=> ∃ (k g c:Nat) (rows:List PRow),k≤kids.length∧i=H J k∧v=M (some ⟨g,0,none⟩) rows.length c∧rows.map PRow.path=[]::pathsTs 0 ((MRe.trees kids).take k)∧PathsAt wr (some g) c rows∧Keeps [] Y wr∧Y.heap.size≤g∧(∀ r∈rows,∀ ad,r.pa=some ad→Y.heap.size≤ad.block)) (fun _ i _ _ _=> kids.length - (intOf i).toNat)
  case atStart=> exact ⟨0,Y.heap.size,1,[⟨none,0,[]⟩],Nat.zero_le _,rfl,rfl,rfl,⟨SliceAt.of_row (size:=1) (c:=1) (heap_alloc_new Y _) rfl (by simp [maxLen]),fun r hr=> by simp at hr;subst hr;exact ⟨fun h=> by simp at h,Nat.le_refl _,fun ad h=> by cases h⟩⟩,Keeps.a1 _ _,Nat.le_refl _,fun r hr ad had=> by simp at hr;subst hr;cases had⟩
  case round=>
   obtain ⟨k,g,c,rows,hkk,rfl,rfl,hrp,hpa,hkp,hg,hrf⟩:=hrel;have HRPW:=gi hrp;have HPA:=gi hpa;have HKP:=gi hkp;have HG:=gi hg;have HRF:=gi hrf;have y2:=hkp.c c2;clear hrp hpa hkp hrf
   by_cases hlt:k < kids.length
   ·obtain ⟨b,off,rfl,hb,hx⟩:=(HK.o.keep (KY.o.trans HKP.o)).nodes.kid (by omega);have hx0:=hx k hlt;have HC:=gi (HI.o kids[k] (List.getElem_mem hlt) wr (KY.o.trans HKP.o));have hlt':k < (MRe.trees kids).length:=by rw [MRe.trees_length];exact hlt
    have hn:=pathsTs_take (MRe.trees kids) 0 k hlt';rw [trees_getElem kids k hlt,Int.zero_add] at hn;obtain ⟨post,hpost⟩:=HPRE.o (k + 1) (by omega);rw [hn] at hpost
    generalize kids[k]=m at *
    obtain ⟨L,hL⟩:∃ L,L=pathsT m.tree:=⟨_,rfl⟩;unfold PathsPost at HC;rw [←hL] at HC hn hpost;have HN:=gi hn;have HPO:=gi hpost;obtain ⟨op1,sa1,sc1,set1,ka1,kc1,kids1,mn1,mx1,mode1,n1,neg1⟩:=m;have q:=hx0.node;obtain ⟨e0,e1,e2,e3,e4,e5,e6,e7⟩:=id q;simp only [MRe.val] at HC;clear q hx0 hx hL hn hpost;go_wp2_with fail
    refine Calls.mono HC.o ?_;rintro e w3 ⟨gl,cl,rl,rfl,hlp,hla,hk3,hgl,hlf⟩;have hrl:rl.length=L.length:=by rw [←hlp,List.length_map]
    have hgs:=HPA.o.sl.lt;have HGS:=gi hgs;have hglg:gl≠g:=by omega
    have hlfg:∀ r∈rl,∀ ad,r.pa=some ad→ad.block≠g:=fun r hr ad had=> by have:=hlf r hr ad had;omega
    have hsum:rows.length + L.length≤1000000:=by
     have h1:=HRL.o;rw [HPO.o,←List.cons_append,←HRPW.o] at h1;simp only [List.length_append,List.length_map] at h1;omega
    have hpl:∀ p∈L,p.length≤999999:=fun p hp=> by
     have h2:=HRP.o ((k:Int)::p) (by rw [HPO.o];exact List.mem_append_left _ (List.mem_cons_of_mem _ (List.mem_append_right _ (List.mem_map_of_mem hp))));simp only [List.length_cons] at h2;omega
    have HPL:=gi hpl;have HLP:=gi hlp;have HRLN:=gi hrl;have hP3:=HPA.o.keep hk3;have hK3:=HKP.o.trans hk3;have HHLA:=gi hla;have HLG:=gi (And.intro hglg hlfg);have HP3:=gi hP3;have HK3:=gi hK3;have HLL:=gi (show L.length≤1000000 by omega);clear hlp hla hk3 hgl hlf hrl hglg hlfg hpl hP3 hK3 e0 e1 e2 e3 e4 e5 e6 e7 y2 hb;go_wp2
    go_loopw [3,6] (fun v j wl=> ∃ (t g2 c2':Nat) (rows2:List PRow),t≤L.length∧j=H J t∧v=M (some ⟨g2,0,none⟩) rows2.length c2'∧rows2.map PRow.path=rows.map PRow.path ++ (L.take t).map (fun p=> (k:Int)::p)∧PathsAt wl (some g2) c2' rows2∧Keeps [] Y wl∧Y.heap.size≤g2∧(∀ r∈rows2,∀ ad,r.pa=some ad→Y.heap.size≤ad.block)∧PathsAt wl (some gl) cl rl∧gl≠g2∧(∀ r∈rl,∀ ad,r.pa=some ad→ad.block≠g2)) (fun _ j _=> L.length - (intOf j).toNat)
    case atStart=> exact ⟨0,g,c,rows,Nat.zero_le _,rfl,rfl,by simp,HP3.o,HK3.o,HG.o,HRF.o,HHLA.o,HLG.o.1,HLG.o.2⟩
    case round=>
     obtain ⟨t,g2,c2',rows2,ht,rfl,rfl,hr2,hp2,hk2,hg2,hf2,hl2,hn2,hq2⟩:=hrel;have HR2:=gi hr2;have HP2:=gi hp2;have HK2:=gi hk2;have HF2:=gi hf2;have HL2:=gi hl2;have HN2:=gi (And.intro hn2 hq2);have hr2l:rows2.length=rows.length + t:=by
      have h1:=congrArg List.length hr2;simp only [List.length_append,List.length_map,List.length_take] at h1;omega
     have HLLO:=HLL.o;have HR2L:=gi hr2l;have hr2b:rows2.length≤1000000:=by omega
     clear hr2 hp2 hk2 hf2 hl2 hn2 hq2 hr2l
     by_cases hlt2:t < L.length
     ·have hrt:t < rl.length:=by have:=HRLN.o;omega
      have hcl:=HL2.o.cell t hrt;obtain ⟨hri,hrc,hrb⟩:=HL2.o.ints rl[t] (List.getElem_mem hrt);have hLt:rl[t].path=L[t]:=by
       have h1:(rl.map PRow.path)[t]'(by rw [List.length_map];exact hrt)=L[t]:=by simp only [HLP.o]
       rw [←h1,List.getElem_map]
      have hpt:=HPL.o _ (List.getElem_mem hlt2);rw [←hLt] at hpt;have htk:(L.take (t + 1)).map (fun p=> (k:Int)::p)=(L.take t).map (fun p=> (k:Int)::p) ++ [(k:Int)::rl[t].path]:=by
       rw [List.take_succ_eq_append_getElem hlt2,List.map_append,hLt];rfl
      have HTK:=gi htk;have hgl2:=HL2.o.sl.lt;have hg22:=HP2.o.sl.lt
      generalize rl[t]=rr at *
      obtain ⟨pa,pc,path⟩:=rr;simp only at hcl hri hrc hrb hpt;have HRI:=gi hri;have HRB:=gi hrb;have HTK:=gi (show (L.take (t + 1)).map (fun p=> (k:Int)::p)=(L.take t).map (fun p=> (k:Int)::p) ++ [(k:Int)::path] from HTK.o);have htL:(t:Int) < (L.length:Int):=by omega
      have ht0:(0:Int)≤(t:Int):=by omega
      clear hri hrb htk hLt
      go_wp2_with (at_builtin;refine wpList_append_any rfl (.tmp 29) (.tmp 33) 22 rfl 3 i0 _ 1 8 Tryz.underlying22 Hi.o Hz0.o Hz1.o Hz2.o rfl (by decide) (some wr.heap.size) 1 1 [H J k] rfl ?hown pa path.length pc (path.map (H J)) rfl ?hln ?hns ?hone (by omega) (by omega) ?hk)
      case hown=> exact SliceAt.of_row (size:=1) (c:=1) (heap_alloc_new wr _) rfl (by simp [maxLen])
      case hns=>
       have hh:=(HRI.o.keepS (Keeps.a1 wr (.cells #[H J k] 3)) (fun _ _=> by simp)).src
       simpa using hh
      case hone=> intro a _;rfl
      case hk=>
       intro a1 c1 w1 hs1 hk1 ha1;have hga:∃ ga,a1=some ga∧wr.heap.size≤ga∧ga < w1.heap.size:=by
        rcases ha1 with rfl | ⟨g1,rfl,h⟩
        ·exact ⟨_,rfl,Nat.le_refl _,hs1.lt⟩
        ·exact ⟨_,rfl,by omega,hs1.lt⟩
       obtain ⟨ga,rfl,hga1,hga2⟩:=hga;have hK1:Keeps [] wr w1:=(Keeps.a1 wr _).after hk1 (by intro x hx;simp at hx;subst hx;exact .inr (Nat.le_refl _));have hs1':SliceAt w1 3 1 (some ga) (1 + path.length) c1 (((k:Int)::path).map (H J)):=hs1;have hi1:=hs1'.to_in;have hc1:1 + path.length≤c1:=by obtain ⟨_,_,_,h,_⟩:=hs1';exact h
       have HI1:=gi hi1;have HC1:=gi hc1;have HK1:=gi hK1;have HPW:=gi (HP2.o.keep (hK1.trans (Keeps.a1 w1 (.cells #[M (some ⟨ga,0,none⟩) (1 + path.length) c1] 22))));have HLW:=gi (HL2.o.keep (hK1.trans (Keeps.a1 w1 (.cells #[M (some ⟨ga,0,none⟩) (1 + path.length) c1] 22))));have hwsz:=hK1.size;clear hs1 hk1 ha1 hK1 hs1' hi1 hc1;simp only [sv,Option.map_some];have HQQ:=HPW.o.sl;have HQ1:rows2.length + 1≤140737488355328:=by omega
       have HQ2:(rows2.length + 1) * 24≤140737488355328:=by omega
       have HQ3:∀ u∈[Value.slice (some ⟨ga,0,none⟩) (1 + path.length) c1],u.oneCell'=true:=by intro u hu;simp at hu;subst hu;rfl
       clear HQQ
       go_wp2_with (at_builtin;refine wpList_append_sl rfl (.tmp 27) (.tmp 35) 30 rfl 22 j0 _ 1 24 Tryz.underlying30 Ji.o Jz0.o Jz1.o Jz2.o rfl (by decide) (some g2) rows2.length c2' _ rfl HPW.o.sl ⟨w1.heap.size,0,none⟩ 1 1 [M (some ⟨ga,0,none⟩) (1 + path.length) c1] rfl rfl (news_row' _ _ _ _ rfl) HQ3 (by decide) HQ1 HQ2 ?hk)
       case hk=>
        intro g3 c3 w3' hs3 hk3 hg3;have hg2s:=HPW.o.sl.lt;have hgls:=HLW.o.sl.lt;have hszA:(w1.alloc (.cells #[M (some ⟨ga,0,none⟩) (1 + path.length) c1] 22)).heap.size=w1.heap.size + 1:=by simp
        rw [hszA] at hg2s hgls;have hgag:ga≠g2:=by omega
        have hgaB:ga < (w1.alloc (.cells #[M (some ⟨ga,0,none⟩) (1 + path.length) c1] 22)).heap.size:=by omega
        have hI3:IntsIn w3' (some ⟨ga,0,none⟩) ((k:Int)::path):=(HI1.o.keepS (Keeps.a1 w1 _) (fun _ _=> by simp)).keepS hk3 (fun ad had=> by cases had;simp;exact hgag);have hpush:=HPW.o.push (r:=⟨some ⟨ga,0,none⟩,c1,(k:Int)::path⟩) (c':=c3) (g:=g3) hk3 (by rcases hg3 with h | h;exact .inl (by rw [h]);exact .inr (by rw [hszA];exact h)) (by simp only [PRow.v,List.length_cons];rw [Nat.add_comm path.length 1];exact hs3) hI3 (by simp only [List.length_cons];have:=HC1.o;omega) (fun ad had=> by cases had;exact ⟨hgaB,by simp;exact hgag⟩);have HPUSH:=gi hpush;have hK3:Keeps [] Y w3':=((HK2.o.trans HK1.o).trans (Keeps.a1 w1 _)).after hk3 (by intro x hx;simp at hx;subst hx;exact .inr hg2);have HK3':=gi hK3;have HGG:=gi (show Y.heap.size≤g3 by
         rcases hg3 with h | h
         ·omega
         ·have:=HK2.o.size;omega)
        have hne3:∀ b,b < w1.heap.size + 1→b≠g2→b≠g3:=fun b h1 h2 h3=> by
         rcases hg3 with h | h
         ·exact h2 (by omega)
         ·omega
        have HLL3:=gi (HLW.o.keepG hk3 (by simp;exact HN2.o.1) (fun r hr ad had=> HN2.o.2 r hr ad had));have HNN3:=gi (show gl≠g3∧∀ r∈rl,∀ ad,r.pa=some ad→ad.block≠g3 from ⟨hne3 gl hgls HN2.o.1,fun r hr ad had=> hne3 _ (by have:=((HLW.o.ints r hr).2.2 ad had).1;rw [hszA] at this;exact this) (HN2.o.2 r hr ad had)⟩);have HRR:=gi (show (rows2 ++ [(⟨some ⟨ga,0,none⟩,c1,(k:Int)::path⟩:PRow)]).map PRow.path=rows.map PRow.path ++ (L.take (t + 1)).map (fun p=> (k:Int)::p) by rw [List.map_append,HR2.o,HTK.o,List.append_assoc];rfl);have HFF:=gi (show ∀ r∈rows2 ++ [(⟨some ⟨ga,0,none⟩,c1,(k:Int)::path⟩:PRow)],∀ ad,r.pa=some ad→Y.heap.size≤ad.block from fun r hr ad had=> by
         rcases List.mem_append.1 hr with hr | hr
         ·exact HF2.o r hr ad had
         ·simp at hr;subst hr;cases had;have:=HK2.o.size;show Y.heap.size≤ga;omega)
        clear hs3 hk3 hg3 hpush hK3 hI3 hne3 hcl HQ3;go_wp2;go_roundw
        case rel=> exact ⟨t + 1,g3,c3,_,by omega,by go_num,by rw [List.length_append];rfl,HRR.o,HPUSH.o,HK3'.o,HGG.o,HFF.o,HLL3.o,HNN3.o.1,HNN3.o.2⟩
        case measure=> simp [intOf];omega
     ·obtain rfl:t=L.length:=by omega
      rw [List.take_length] at HR2;have HREL:=gi (show rows2.map PRow.path=[]::pathsTs 0 ((MRe.trees kids).take (k + 1)) by rw [HR2.o,HRPW.o,HN.o];rfl);go_wp2;go_roundw
      case rel=> exact ⟨k + 1,g2,c2',rows2,by omega,by go_num,rfl,HREL.o,HP2.o,HK2.o,hg2,HF2.o⟩
      case measure=> simp [intOf];omega
   ·obtain rfl:k=kids.length:=by omega
    have hpk:rows.map PRow.path=R:=by rw [HRPW.o,HR0.o,show (MRe.trees kids).take kids.length=MRe.trees kids by rw [←MRe.trees_length kids,List.take_length]]
    go_wp2;go_ret;exact ⟨g,c,rows,by rw [show R.length=rows.length by rw [←hpk,List.length_map]];rfl,hpk,HPA.o,KY.o.trans HKP.o,Nat.le_trans KY.o.size HG.o,fun r hr ad had=> Nat.le_trans KY.o.size (HRF.o r hr ad had)⟩
def ruleI (r:Int) (t:Tree):Option Tree:=if 0≤r∧r < 17 then ruleR r.toNat t else none
theorem ruleI_bulk {r:Int} {t:Tree} (hb:t.bulk≤12000):((ruleI r t).getD .nil).bulk≤100000:=by
 unfold ruleI
 split
 ·rename_i h
  cases hq:ruleR r.toNat t with
  | none=> decide
  | some q=> have:=ruleR_bulk (by omega) hq;rw [Option.getD_some];omega
 ·decide
theorem papply_all (r:Int) (m:MRe) (w:World) (k1:m.OK w) (f1:m.tree.WF) (hb:m.tree.bulk≤12000):
  Calls Tryz.prog 11 #[H J r,m.val] w (ApplyPost w (ruleI r m.tree)):=by
 unfold ruleI
 by_cases h:0≤r∧r < 17
 ·rw [if_pos h]
  have:=papply_any r.toNat (by omega) m w k1 f1 (by omega)
  rw [show ((r.toNat:Nat):Int)=r by omega] at this;exact this
 ·rw [if_neg h];exact papply_none r (by omega) m w
theorem rapply_all (r:Int) (hr:-1≤r∧r≤17) (m:MRe) (w:World) (k1:m.OK w) (f1:m.tree.WF) (hb:m.tree.bulk≤12000):
  Calls Tryz.prog 12 #[H J r,m.val] w (AnyPost w m.blocks (ruleI r m.tree)):=by
 unfold ruleI
 by_cases h:0≤r∧r < 17
 ·rw [if_pos h]
  have:=rapply_any r.toNat (by omega) m w k1 f1 (by omega)
  rw [show ((r.toNat:Nat):Int)=r by omega] at this;exact Calls.mono this fun _ _ h=> RulePost.any h
 ·rw [if_neg h];exact Calls.mono (rapply_none r (by omega) m w k1) fun _ _ h=> RulePost.any h
theorem wf_nil:Tree.nil.WF:=by
 show (Tree.node 0 [] [] 0 0 0 0 false).WF
 refine .mk ⟨by omega,by simp,by simp,by simp,by simp,by simp,by simp,by simp,by simp,by simp,by simp,by simp,by simp⟩ (by simp)
theorem atT_ok:∀ (path:List Int) {t q:Tree},t.WF→atT t path=some q→q.WF∧q.bulk≤t.bulk:=by
 intro path
 induction path with
 | nil=> intro t q h he;simp only [atT,Option.some.injEq] at he;subst he;exact ⟨h,Nat.le_refl _⟩
 | cons x r ih=>
  intro t q h he;rw [atT] at he
  split at he
  ·rename_i hx
   have hi:x.toNat < t.kids.length:=by omega
   rw [List.getD_eq_getElem?_getD,List.getElem?_eq_getElem hi,Option.getD_some] at he
   cases t with
   | node op set kids mn mx mode n neg=>
    have hm:kids[x.toNat]'hi∈kids:=List.getElem_mem hi;have h1:=ih (h.kid hm) he;have h2:=Tree.bulks_mem hm;have h3:q.bulk≤(kids[x.toNat]'hi).bulk:=h1.2;simp only [Tree.bulk];exact ⟨h1.1,by omega⟩
  ·cases he
theorem atT_getD {path:List Int} {t:Tree} (h:t.WF):((atT t path).getD .nil).WF∧((atT t path).getD .nil).bulk≤t.bulk:=by
 cases hq:atT t path with
 | none=> exact ⟨wf_nil,Tree.bulk_pos t⟩
 | some q=> exact atT_ok path h hq
def DoubPost (w:World) (e:Ending) (w':World):Prop:=
 ∃ (m:MRe) (cp:Int),e=.returned (patVal m cp false)∧m.OK w'∧Keeps [] w w'∧m.tree.bulk≤12000∧validE m.tree cp false=0
theorem lit_from {lo G kc:Nat} {src:List Nat} {op mn mx mode n:Int} {neg:Bool} {ks:List MRe} (h:lo≤G) (hk:∀ k∈ks,From lo src k.blocks):From lo src (MRe.node op none 0 [] (some ⟨G,0,none⟩) kc ks mn mx mode n neg).blocks:=fun b hb=> by
 simp only [MRe.blocks,List.mem_append] at hb
 rcases hb with hb | hb | hb
 ·simp [blockIf] at hb
 ·unfold blockIf at hb
  split at hb
  ·cases hb
  ·simp at hb;subst hb;exact .inr h
 ·obtain ⟨y,hy,hq⟩:=MRe.blocksL_mem hb;exact hk y hy b hq
theorem lit_ok {W:World} {T:Nat} {op mn mx mode n:Int} {neg:Bool} {ks:List MRe} {cs:Array Value} (hk:∀ k∈ks,k.OK W) (hc:cs.toList=flatK ks) (hn:ks.length≤maxLen):
  MRe.OK (W.alloc (.cells cs T)) (.node op none 0 [] (some ⟨W.heap.size,0,none⟩) ks.length ks mn mx mode n neg):=
 .of (SpansIn.nil _) ⟨NodesIn.of_block (kids:=ks) (heap_alloc_new W _) hc hn,fun x hx=> (hk x hx).keep (Keeps.a1 _ _)⟩
theorem arm_end {V W:World} {g T:Nat} {src:List Nat} {op sa sc set ka kc kids mn mx mode n neg} (kW:Keeps [] V W) (hz:V.heap[g]? =some (.cells #[H J 0,M none 0 0,M none 0 0,H J 0,H J 0,H J 0,H J 0,F false] T (0,0))) (ok:MRe.OK W (.node op sa sc set ka kc kids mn mx mode n neg)) (hfr:From V.heap.size src (MRe.node op sa sc set ka kc kids mn mx mode n neg).blocks) (hlt:∀ b∈src,b < g):
  (set8 W g (H J op) (M sa set.length sc) (M ka kids.length kc) (H J mn) (H J mx) (H J mode) (H J n) (F neg)).heap[g]? =some (.cells #[H J op,M sa set.length sc,M ka kids.length kc,H J mn,H J mx,H J mode,H J n,F neg] T (0,0))∧
  MRe.OK (set8 W g (H J op) (M sa set.length sc) (M ka kids.length kc) (H J mn) (H J mx) (H J mode) (H J n) (F neg)) (.node op sa sc set ka kc kids mn mx mode n neg)∧
  Keeps [g] V (set8 W g (H J op) (M sa set.length sc) (M ka kids.length kc) (H J mn) (H J mx) (H J mode) (H J n) (F neg)):=by
 have hk8:=set8_keeps W g (H J op) (M sa set.length sc) (M ka kids.length kc) (H J mn) (H J mx) (H J mode) (H J n) (F neg);have hg:=lt_of_block hz;refine ⟨set8_heap (kW.h hz) _ _ _ _ _ _ _ _,ok.keepS hk8 fun b hb=> ?_,(kW.mono (by simp)).trans hk8⟩
 rcases hfr b hb with h | h
 ·have:=hlt b h;simp;omega
 ·simp;omega
theorem letterF_any (lo hi:Int) (w:World):Calls Tryz.prog 39 #[H J lo,H J hi] w (TreeFrom w [] (letT lo hi)):=by
 go_enter Tryz.func39,Tryz.ntmps39
 go_wp2;refine bodyPost_ret (results_cell_row rfl _ _ w.heap.size 26 #[H J 1,M (some ⟨w.heap.size + 1,0,none⟩) 1 1,M none 0 0,H J 0,H J 0,H J 0,H J 0,F false] (0,0) _ rfl ((Keeps.a1 _ _).heap (heap_alloc_new w _) (by simp)) Tryz.underlying26 rfl sizeRe) rfl ?_;refine ⟨.node 1 (some ⟨w.heap.size + 1,0,none⟩) 1 [(lo,hi)] none 0 [] 0 0 0 0 false,rfl,rfl,.of (SpansIn.of_block (set:=[(lo,hi)]) (heap_alloc2_new w _ _) rfl (by simp [maxLen])) (KidsIn.nil _),Keeps.a2 _ _ _,fun b hb=> .inr (by simp [MRe.blocks,MRe.blocksL,blockIf] at hb;omega)⟩
theorem lstarF_any (m:MRe) (w:World) (k1:m.OK w):Calls Tryz.prog 41 #[m.val] w (TreeFrom w m.blocks (starT m.tree)):=by
 obtain ⟨m0,hm0⟩:∃ m0,m0=m:=⟨_,rfl⟩;rw [←hm0] at k1 ⊢;have HM:=gi hm0;obtain ⟨op,sa,sc,set,ka,kc,kids,mn,mx,mode,n,neg⟩:=m;have hv:m0.val=.agg #[H J op,M sa set.length sc,M ka kids.length kc,H J mn,H J mx,H J mode,H J n,F neg]:=by rw [hm0];rfl
 rw [hv];have HK:=gi k1;clear hm0 hv k1;go_enter Tryz.func41,Tryz.ntmps41
 go_wp2;refine bodyPost_ret (results_cell_row rfl _ _ (w.heap.size + 1) 26 #[H J 4,M none 0 0,M (some ⟨w.heap.size + 2,0,none⟩) 1 1,H J 0,H J (-1),H J 0,H J 0,F false] (0,0) _ rfl ((Keeps.a1 _ _).heap (heap_alloc2_new w _ _) (by simp)) Tryz.underlying26 rfl sizeRe) rfl ?_;refine ⟨.node 4 none 0 [] (some ⟨w.heap.size + 2,0,none⟩) 1 [m0] 0 (-1) 0 0 false,rfl,rfl,.of (SpansIn.nil _) ⟨NodesIn.of_block (kids:=[m0]) (T:=26) (fz:=(0,0)) (cs:=#[H J op,M sa set.length sc,M ka kids.length kc,H J mn,H J mx,H J mode,H J n,F neg]) ?_ (by rw [HM.o];rfl) (by simp [maxLen]),fun x hx=> ?_⟩,Keeps.a3 _ _ _ _,lit_from (by omega) fun k hk=> by simp only [List.mem_cons,List.not_mem_nil,or_false] at hk;subst hk;exact From.refl _ _⟩
 ·have h:=heap_alloc_new ((w.alloc (.cells #[H J op,M sa set.length sc,M ka kids.length kc,H J mn,H J mx,H J mode,H J n,F neg] 26)).alloc (.cells #[H J 4,M none 0 0,M (some ⟨w.heap.size + 2,0,none⟩) 1 1,H J 0,H J (-1),H J 0,H J 0,F false] 26)) (.cells #[H J op,M sa set.length sc,M ka kids.length kc,H J mn,H J mx,H J mode,H J n,F neg] 26);rw [show ((w.alloc (.cells #[H J op,M sa set.length sc,M ka kids.length kc,H J mn,H J mx,H J mode,H J n,F neg] 26)).alloc (.cells #[H J 4,M none 0 0,M (some ⟨w.heap.size + 2,0,none⟩) 1 1,H J 0,H J (-1),H J 0,H J 0,F false] 26)).heap.size=w.heap.size + 2 by simp] at h;exact h
 ·simp only [List.mem_cons,List.not_mem_nil,or_false] at hx;subst hx;exact HK.o.keep (Keeps.a3 _ _ _ _)
theorem lcatF_any (m1 m2:MRe) (w:World) (k1:m1.OK w) (k2:m2.OK w):Calls Tryz.prog 40 #[m1.val,m2.val] w (TreeFrom w (m1.blocks ++ m2.blocks) (catT m1.tree m2.tree)):=by
 obtain ⟨n1',hn1⟩:∃ n1',n1'=m1:=⟨_,rfl⟩;obtain ⟨n2',hn2⟩:∃ n2',n2'=m2:=⟨_,rfl⟩;rw [←hn1] at k1 ⊢;rw [←hn2] at k2 ⊢;have H1:=gi hn1;have H2:=gi hn2;obtain ⟨op5,sa5,sc5,set5,ka5,kc5,kids5,mn5,mx5,mode5,n5,neg5⟩:=m1;obtain ⟨op6,sa6,sc6,set6,ka6,kc6,kids6,mn6,mx6,mode6,n6,neg6⟩:=m2;have hv1:n1'.val=.agg #[H J op5,M sa5 set5.length sc5,M ka5 kids5.length kc5,H J mn5,H J mx5,H J mode5,H J n5,F neg5]:=by rw [hn1];rfl
 have hv2:n2'.val=.agg #[H J op6,M sa6 set6.length sc6,M ka6 kids6.length kc6,H J mn6,H J mx6,H J mode6,H J n6,F neg6]:=by rw [hn2];rfl
 rw [hv1,hv2];have HK1:=gi k1;have HK2:=gi k2;clear hn1 hn2 hv1 hv2 k1 k2;go_enter Tryz.func40,Tryz.ntmps40
 go_wp2;refine bodyPost_ret (results_cell_row rfl _ _ (w.heap.size + 2) 26 #[H J 2,M none 0 0,M (some ⟨w.heap.size + 3,0,none⟩) 2 2,H J 0,H J 0,H J 0,H J 0,F false] (0,0) _ rfl ((Keeps.a1 _ _).heap ?_ (by simp)) Tryz.underlying26 rfl sizeRe) rfl ?_
 ·have h:=heap_alloc_new ((w.alloc (.cells #[H J op5,M sa5 set5.length sc5,M ka5 kids5.length kc5,H J mn5,H J mx5,H J mode5,H J n5,F neg5] 26)).alloc (.cells #[H J op6,M sa6 set6.length sc6,M ka6 kids6.length kc6,H J mn6,H J mx6,H J mode6,H J n6,F neg6] 26)) (.cells #[H J 2,M none 0 0,M (some ⟨w.heap.size + 3,0,none⟩) 2 2,H J 0,H J 0,H J 0,H J 0,F false] 26);rw [show ((w.alloc (.cells #[H J op5,M sa5 set5.length sc5,M ka5 kids5.length kc5,H J mn5,H J mx5,H J mode5,H J n5,F neg5] 26)).alloc (.cells #[H J op6,M sa6 set6.length sc6,M ka6 kids6.length kc6,H J mn6,H J mx6,H J mode6,H J n6,F neg6] 26)).heap.size=w.heap.size + 2 by simp] at h;exact h
 refine ⟨.node 2 none 0 [] (some ⟨w.heap.size + 3,0,none⟩) 2 [n1',n2'] 0 0 0 0 false,rfl,rfl,.of (SpansIn.nil _) ⟨NodesIn.of_block (kids:=[n1',n2']) (T:=26) (fz:=(0,0)) (cs:=#[H J op5,M sa5 set5.length sc5,M ka5 kids5.length kc5,H J mn5,H J mx5,H J mode5,H J n5,F neg5,H J op6,M sa6 set6.length sc6,M ka6 kids6.length kc6,H J mn6,H J mx6,H J mode6,H J n6,F neg6]) ?_ (by rw [H1.o,H2.o];rfl) (by simp [maxLen]),fun x hx=> ?_⟩,Keeps.a4 _ _ _ _ _,lit_from (by omega) fun k hk=> by
  simp only [List.mem_cons,List.not_mem_nil,or_false] at hk
  rcases hk with rfl | rfl
  ·exact From.of_mem fun b hb=> List.mem_append_left _ hb
  ·exact From.of_mem fun b hb=> List.mem_append_right _ hb⟩
 ·have h:=heap_alloc_new (((w.alloc (.cells #[H J op5,M sa5 set5.length sc5,M ka5 kids5.length kc5,H J mn5,H J mx5,H J mode5,H J n5,F neg5] 26)).alloc (.cells #[H J op6,M sa6 set6.length sc6,M ka6 kids6.length kc6,H J mn6,H J mx6,H J mode6,H J n6,F neg6] 26)).alloc (.cells #[H J 2,M none 0 0,M (some ⟨w.heap.size + 3,0,none⟩) 2 2,H J 0,H J 0,H J 0,H J 0,F false] 26)) (.cells #[H J op5,M sa5 set5.length sc5,M ka5 kids5.length kc5,H J mn5,H J mx5,H J mode5,H J n5,F neg5,H J op6,M sa6 set6.length sc6,M ka6 kids6.length kc6,H J mn6,H J mx6,H J mode6,H J n6,F neg6] 26);rw [show (((w.alloc (.cells #[H J op5,M sa5 set5.length sc5,M ka5 kids5.length kc5,H J mn5,H J mx5,H J mode5,H J n5,F neg5] 26)).alloc (.cells #[H J op6,M sa6 set6.length sc6,M ka6 kids6.length kc6,H J mn6,H J mx6,H J mode6,H J n6,F neg6] 26)).alloc (.cells #[H J 2,M none 0 0,M (some ⟨w.heap.size + 3,0,none⟩) 2 2,H J 0,H J 0,H J 0,H J 0,F false] 26)).heap.size=w.heap.size + 3 by simp] at h;exact h
 ·simp only [List.mem_cons,List.not_mem_nil,or_false] at hx
  rcases hx with rfl | rfl
  ·exact HK1.o.keep (Keeps.a4 _ _ _ _ _)
  ·exact HK2.o.keep (Keeps.a4 _ _ _ _ _)
end Go.Proofs.YtjnlkjlbejelgaaGreat
