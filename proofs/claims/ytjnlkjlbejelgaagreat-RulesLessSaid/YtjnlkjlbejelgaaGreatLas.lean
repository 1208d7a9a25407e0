/- Part 19 of the proof. No condition: every lemma says its own. -/
import Derived.Test.YtjnlkjlbejelgaaGreatLar
import Derived.Test.YtjnlkjlbejelgaaGreatLaq
namespace Go.Proofs.YtjnlkjlbejelgaaGreat
open Go.RowKit
open Go.Value renaming int→H,slice→M,bool→F
open Go.IntKind renaming i64→J
set_option maxRecDepth 100000
set_option maxHeartbeats 16000000
theorem IntsIn.src {w:World} {pa:Option Addr} {xs:List Int} (h:IntsIn w pa xs):0 < xs.length→∃ ad,pa=some ad∧∀ j u,(xs.map (H J))[j]? =some u→w.cell? (ad.add j)=some u:=fun h0=> by
 obtain ⟨b,off,rfl,hc⟩:=h h0;refine ⟨⟨b,off,none⟩,rfl,fun j u hu=> ?_⟩;rw [List.getElem?_map] at hu;obtain ⟨x,hx,rfl⟩:=Option.map_eq_some_iff.1 hu;obtain ⟨hj,hx⟩:=List.getElem?_eq_some_iff.1 hx;rw [add_none,hc j hj,List.getD_eq_getElem?_getD,List.getElem?_eq_getElem hj,Option.getD_some,hx]
structure PRow where
 pa:Option Addr
 pc:Nat
 path:List Int
def PRow.v (r:PRow):Value:=M r.pa r.path.length r.pc
structure PathsAt (w:World) (a:Option Nat) (c:Nat) (rows:List PRow):Prop where
 sl:SliceAt w 22 1 a rows.length c (rows.map PRow.v)
 ints:∀ r∈rows,IntsIn w r.pa r.path∧r.path.length≤r.pc∧∀ ad,r.pa=some ad→ad.block < w.heap.size∧some ad.block≠a
theorem PathsAt.keep {w w':World} {a:Option Nat} {c:Nat} {rows:List PRow} (h:PathsAt w a c rows) (k:Keeps [] w w'):PathsAt w' a c rows:=
 ⟨h.sl.keep k (by simp),fun r hr=> ⟨(h.ints r hr).1.keepS k (fun _ _=> by simp),(h.ints r hr).2.1,fun ad had=> ⟨Nat.lt_of_lt_of_le ((h.ints r hr).2.2 ad had).1 k.size,((h.ints r hr).2.2 ad had).2⟩⟩⟩
theorem PathsAt.keepG {w w':World} {a:Option Nat} {c g:Nat} {rows:List PRow} (h:PathsAt w a c rows) (k:Keeps [g] w w') (hg:a≠some g) (hn:∀ r∈rows,∀ ad,r.pa=some ad→ad.block≠g):PathsAt w' a c rows:=
 ⟨h.sl.keep k (fun x hx hm=> by simp at hm;subst hm;exact hg hx),fun r hr=> ⟨(h.ints r hr).1.keepS k (fun ad had hm=> by simp at hm;exact hn r hr ad had hm),(h.ints r hr).2.1,fun ad had=> ⟨Nat.lt_of_lt_of_le ((h.ints r hr).2.2 ad had).1 k.size,((h.ints r hr).2.2 ad had).2⟩⟩⟩
theorem PathsAt.cell {w:World} {g:Nat} {c:Nat} {rows:List PRow} (h:PathsAt w (some g) c rows) (i:Nat) (hi:i < rows.length):w.cell? ⟨g,i,none⟩=some (M rows[i].pa rows[i].path.length rows[i].pc):=by
 rw [h.sl.cell i (by simpa using hi),List.getElem_map];rfl
theorem PathsAt.push {w w':World} {a:Option Nat} {g c c':Nat} {rows:List PRow} {r:PRow} (h:PathsAt w a c rows) (k:Keeps a.toList w w') (hg:a=some g∨w.heap.size≤g) (hs:SliceAt w' 22 1 (some g) (rows.length + 1) c' (rows.map PRow.v ++ [r.v]))
  (hr:IntsIn w' r.pa r.path) (hl:r.path.length≤r.pc) (hn:∀ ad,r.pa=some ad→ad.block < w.heap.size∧some ad.block≠a):PathsAt w' (some g) c' (rows ++ [r]):=by
 have hne:∀ b,b < w.heap.size→some b≠a→some b≠some g:=fun b h1 h2 h3=> by
  cases h3
  rcases hg with h | h
  ·exact h2 h.symm
  ·omega
 refine ⟨by simpa using hs,fun x hx=> ?_⟩
 rcases List.mem_append.1 hx with hx | hx
 ·obtain ⟨h1,h2,h3⟩:=h.ints x hx;refine ⟨h1.keepS k fun ad had hm=> ?_,h2,fun ad had=> ⟨Nat.lt_of_lt_of_le (h3 ad had).1 k.size,hne _ (h3 ad had).1 (h3 ad had).2⟩⟩;simp at hm;exact (h3 ad had).2 hm.symm
 ·simp at hx;subst hx;exact ⟨hr,hl,fun ad had=> ⟨Nat.lt_of_lt_of_le (hn ad had).1 k.size,hne _ (hn ad had).1 (hn ad had).2⟩⟩
def PathsPost (w:World) (t:Tree) (e:Ending) (w':World):Prop:=
 ∃ g c rows,e=.returned (M (some ⟨g,0,none⟩) (pathsT t).length c)∧rows.map PRow.path=pathsT t∧PathsAt w' (some g) c rows∧Keeps [] w w'∧w.heap.size≤g∧∀ r∈rows,∀ ad,r.pa=some ad→w.heap.size≤ad.block
theorem infoInts:(Tryz.prog.info? 22).map (fun i=> (i.zero,i.size,i.bytes))=some (some (M none 0 0),1,24):=by kernel_rfl
theorem rpaths_any (m:MRe):∀ (w:World),m.OK w→m.tree.bulk≤1000000→
  Calls Tryz.prog 9 #[m.val] w (PathsPost w m.tree):=by
 obtain ⟨i0,hi0,hz0,hz1,hz2⟩:=info_parts infoInt;have Hi:=gi hi0;have Hz0:=gi hz0;have Hz1:=gi hz1;have Hz2:=gi hz2;clear hi0 hz0 hz1 hz2;obtain ⟨j0,hi0,hz0,hz1,hz2⟩:=info_parts infoInts;have Ji:=gi hi0;have Jz0:=gi hz0;have Jz1:=gi hz1;have Jz2:=gi hz2;clear hi0 hz0 hz1 hz2
 induction m using MRe.induct with
 | h op sa sc set ka kc kids mn mx mode n neg ih=>
  intro w k1 hb;obtain ⟨R,hR0⟩:∃ R,R=pathsT (MRe.tree (.node op sa sc set ka kc kids mn mx mode n neg)):=⟨_,rfl⟩;have hlen:=paths_length (MRe.tree (.node op sa sc set ka kc kids mn mx mode n neg));have hsz:=(size_depth (MRe.tree (.node op sa sc set ka kc kids mn mx mode n neg))).1;unfold PathsPost;rw [←hR0] at hlen ⊢;replace hR0:R=[]::pathsTs 0 (MRe.trees kids):=by rw [hR0];simp only [MRe.tree,pathsT]
  have hRl:R.length≤1000000:=by omega
  have hRp:∀ p∈R,p.length≤1000000:=fun p hp=> by have:=hlen.2 p hp;omega
  have HRP:=gi hRp;have HR0:=gi hR0;have HRL:=gi hRl;obtain ⟨hbl,_,hbk⟩:=kids_bulk hb;have HI:=gi (fun k (hk:k∈kids) W (h:Keeps [] w W)=> ih k hk W ((k1.kid hk).keep h) (hbk k hk));have HK:=gi k1.kids;have hle:=k1.nodes.le;have hcap:=k1.nodes.cap;unfold maxLen at hcap;have HPRE:=gi (show ∀ k,k≤kids.length→∃ l,R=([]::pathsTs 0 ((MRe.trees kids).take k)) ++ l from fun k hk=> by
   have h1:∀ (l:List Tree) (i:Int) j,∃ q,pathsTs i l=pathsTs i (l.take j) ++ q:=by
    intro l
    induction l with
    | nil=> intro i j;exact ⟨[],by simp [pathsTs]⟩
    | cons x r ih2=>
     intro i j
     cases j with
     | zero=> exact ⟨_,rfl⟩
     | succ j=> obtain ⟨q,hq⟩:=ih2 (i + 1) j;exact ⟨q,by simp only [List.take_succ_cons,pathsTs,List.append_assoc];rw [←hq]⟩
   obtain ⟨q,hq⟩:=h1 (MRe.trees kids) 0 k;exact ⟨q,by rw [hR0,hq];rfl⟩)
  simp only [MRe.val];obtain ⟨B,Y,c0,c1,c2,c3,c4,c5,c6,c7,HYE,HBE,KY⟩:=pre1 w op sa sc set ka kc kids mn mx mode n neg;clear ih k1 hb hbk hR0 hlen hsz hRp;go_enter Tryz.func9,Tryz.ntmps9
  go_upto_region 1 with fail
  rw [←HYE.o,←HBE.o];go_wp2
  go_loopw [3,4,5,6] (fun v i _ _ wr=> ∃ (k g c:Nat) (rows:List PRow),k≤kids.length∧i=H J k∧v=M (some ⟨g,0,none⟩) rows.length c∧rows.map PRow.path=[]::pathsTs 0 ((MRe.trees kids).take k)∧PathsAt wr (some g) c rows∧Keeps [] Y wr∧Y.heap.size≤g∧(∀ r∈rows,∀ ad,r.pa=some ad→Y.heap.size≤ad.block)) (fun _ i _ _ _=> kids.length - (intOf i).toNat)
  case atStart=> exact ⟨0,Y.heap.size,1,[⟨none,0,[]⟩],Nat.zero_le _,rfl,rfl,rfl,⟨SliceAt.of_row (size:=1) (c:=1) (heap_alloc_new Y _) rfl (by simp [maxLen]),fun r hr=> by simp at hr;subst hr;exact ⟨fun h=> by simp at h,Nat.le_refl _,fun ad h=> by cases h⟩⟩,Keeps.a1 _ _,Nat.le_refl _,fun r hr ad had=> by simp at hr;subst hr;cases had⟩
  case round=>
   obtain ⟨k,g,c,rows,hkk,rfl,rfl,hrp,hpa,hkp,hg,hrf⟩:=hrel;have HRPW:=gi hrp;have HPA:=gi hpa;have HKP:=gi hkp;have HG:=gi hg;have HRF:=gi hrf;have y2:=hkp.c c2;clear hrp hpa hkp hrf
   by_cases hlt:k < kids.length
   ·obtain ⟨b,off,rfl,hb,hx⟩:=(HK.o.keep (KY.o.trans HKP.o)).nodes.kid (by omega);have hx0:=hx k hlt;have HC:=gi (HI.o kids[k] (List.getElem_mem hlt) wr (KY.o.trans HKP.o));have hlt':k < (MRe.trees kids).length:=by rw [MRe.trees_length];exact hlt
    have hn:=pathsTs_take (MRe.trees kids) 0 k hlt';rw [trees_getElem kids k hlt,Int.zero_add] at hn;obtain ⟨post,hpost⟩:=HPRE.o (k + 1) (by omega);rw [hn] at hpost
    generalize kids[k]=m at *
    obtain ⟨L,hL⟩:∃ L,L=pathsT m.tree:=⟨_,rfl⟩;unfold PathsPost at HC;rw [←hL] at HC hn hpost;have HN:=gi hn;have HPO:=gi hpost;obtain ⟨op1,sa1,sc1,set1,ka1,kc1,kids1,mn1,mx1,mode1,n1,neg1⟩:=m;have q:=hx0.node;obtain ⟨e0,e1,e2,e3,e4,e5,e6,e7⟩:=id q;simp only [MRe.val] at HC;clear q hx0 hx hL hn hpost;go_wp2_with fail
    refine Calls.mono HC.o ?_;rintro e w3 ⟨gl,cl,rl,rfl,hlp,hla,hk3,hgl,hlf⟩;have hrl:rl.length=L.length:=by rw [←hlp,List.length_map]
    have hgs:=HPA.o.sl.lt;have HGS:=gi hgs;have hglg:gl≠g:=by omega
    have hlfg:∀ r∈rl,∀ ad,r.pa=some ad→ad.block≠g:=fun r hr ad had=> by have:=hlf r hr ad had;omega
    have hsum:rows.length + L.length≤1000000:=by
     have h1:=HRL.o;rw [HPO.o,←List.cons_append,←HRPW.o] at h1;simp only [List.length_append,List.length_map] at h1;omega
    have hpl:∀ p∈L,p.length≤999999:=fun p hp=> by
     have h2:=HRP.o ((k:Int)::p) (by rw [HPO.o];exact List.mem_append_left _ (List.mem_cons_of_mem _ (List.mem_append_right _ (List.mem_map_of_mem hp))));simp only [List.length_cons] at h2;omega
    have HPL:=gi hpl;have HLP:=gi hlp;have HRLN:=gi hrl;have hP3:=HPA.o.keep hk3;have hK3:=HKP.o.trans hk3;have HHLA:=gi hla;have HLG:=gi (And.intro hglg hlfg);have HP3:=gi hP3;have HK3:=gi hK3;have HLL:=gi (show L.length≤1000000 by omega);clear hlp hla hk3 hgl hlf hrl hglg hlfg hpl hP3 hK3 e0 e1 e2 e3 e4 e5 e6 e7 y2 hb;go_wp2
    go_loopw [3,6] (fun v j wl=> ∃ (t g2 c2':Nat) (rows2:List PRow),t≤L.length∧j=H J t∧v=M (some ⟨g2,0,none⟩) rows2.length c2'∧rows2.map PRow.path=rows.map PRow.path ++ (L.take t).map (fun p=> (k:Int)::p)∧PathsAt wl (some g2) c2' rows2∧Keeps [] Y wl∧Y.heap.size≤g2∧(∀ r∈rows2,∀ ad,r.pa=some ad→Y.heap.size≤ad.block)∧PathsAt wl (some gl) cl rl∧gl≠g2∧(∀ r∈rl,∀ ad,r.pa=some ad→ad.block≠g2)) (fun _ j _=> L.length - (intOf j).toNat)
    case atStart=> exact ⟨0,g,c,rows,Nat.zero_le _,rfl,rfl,by simp,HP3.o,HK3.o,HG.o,HRF.o,HHLA.o,HLG.o.1,HLG.o.2⟩
    case round=>
     obtain ⟨t,g2,c2',rows2,ht,rfl,rfl,hr2,hp2,hk2,hg2,hf2,hl2,hn2,hq2⟩:=hrel;have HR2:=gi hr2;have HP2:=gi hp2;have HK2:=gi hk2;have HF2:=gi hf2;have HL2:=gi hl2;have HN2:=gi (And.intro hn2 hq2);have hr2l:rows2.length=rows.length + t:=by
      have h1:=congrArg List.length hr2;simp only [List.length_append,List.length_map,List.length_take] at h1;omega
     have HLLO:=HLL.o;have HR2L:=gi hr2l;have hr2b:rows2.length≤1000000:=by omega
     clear hr2 hp2 hk2 hf2 hl2 hn2 hq2 hr2l
     by_cases hlt2:t < L.length
     ·have hrt:t < rl.length:=by have:=HRLN.o;omega
      have hcl:=HL2.o.cell t hrt;obtain ⟨hri,hrc,hrb⟩:=HL2.o.ints rl[t] (List.getElem_mem hrt);have hLt:rl[t].path=L[t]:=by
       have h1:(rl.map PRow.path)[t]'(by rw [List.length_map];exact hrt)=L[t]:=by simp only [HLP.o]
       rw [←h1,List.getElem_map]
      have hpt:=HPL.o _ (List.getElem_mem hlt2);rw [←hLt] at hpt;have htk:(L.take (t + 1)).map (fun p=> (k:Int)::p)=(L.take t).map (fun p=> (k:Int)::p) ++ [(k:Int)::rl[t].path]:=by
       rw [List.take_succ_eq_append_getElem hlt2,List.map_append,hLt];rfl
      have HTK:=gi htk;have hgl2:=HL2.o.sl.lt;have hg22:=HP2.o.sl.lt
      generalize rl[t]=rr at *
      obtain ⟨pa,pc,path⟩:=rr;simp only at hcl hri hrc hrb hpt;have HRI:=gi hri;have HRB:=gi hrb;have HTK:=gi (show (L.take (t + 1)).map (fun p=> (k:Int)::p)=(L.take t).map (fun p=> (k:Int)::p) ++ [(k:Int)::path] from HTK.o);have htL:(t:Int) < (L.length:Int):=by omega
      have ht0:(0:Int)≤(t:Int):=by omega
      clear hri hrb htk hLt
      go_wp2_with (at_builtin;refine wpList_append_any rfl (.tmp 29) (.tmp 33) 22 rfl 3 i0 _ 1 8 Tryz.underlying22 Hi.o Hz0.o Hz1.o Hz2.o rfl (by decide) (some wr.heap.size) 1 1 [H J k] rfl ?hown pa path.length pc (path.map (H J)) rfl ?hln ?hns ?hone (by omega) (by omega) ?hk)
      case hown=> exact SliceAt.of_row (size:=1) (c:=1) (heap_alloc_new wr _) rfl (by simp [maxLen])
      case hns=>
       have hh:=(HRI.o.keepS (Keeps.a1 wr (.cells #[H J k] 3)) (fun _ _=> by simp)).src
       simpa using hh
      case hone=> intro a _;rfl
      case hk=>
       intro a1 c1 w1 hs1 hk1 ha1;have hga:∃ ga,a1=some ga∧wr.heap.size≤ga∧ga < w1.heap.size:=by
        rcases ha1 with rfl | ⟨g1,rfl,h⟩
        ·exact ⟨_,rfl,Nat.le_refl _,hs1.lt⟩
        ·exact ⟨_,rfl,by omega,hs1.lt⟩
       obtain ⟨ga,rfl,hga1,hga2⟩:=hga;have hK1:Keeps [] wr w1:=(Keeps.a1 wr _).after hk1 (by intro x hx;simp at hx;subst hx;exact .inr (Nat.le_refl _));have hs1':SliceAt w1 3 1 (some ga) (1 + path.length) c1 (((k:Int)::path).map (H J)):=hs1;have hi1:=hs1'.to_in;have hc1:1 + path.length≤c1:=by obtain ⟨_,_,_,h,_⟩:=hs1';exact h
       have HI1:=gi hi1;have HC1:=gi hc1;have HK1:=gi hK1;have HPW:=gi (HP2.o.keep (hK1.trans (Keeps.a1 w1 (.cells #[M (some ⟨ga,0,none⟩) (1 + path.length) c1] 22))));have HLW:=gi (HL2.o.keep (hK1.trans (Keeps.a1 w1 (.cells #[M (some ⟨ga,0,none⟩) (1 + path.length) c1] 22))));have hwsz:=hK1.size;clear hs1 hk1 ha1 hK1 hs1' hi1 hc1;simp only [sv,Option.map_some];have HQQ:=HPW.o.sl;have HQ1:rows2.length + 1≤140737488355328:=by omega
       have HQ2:(rows2.length + 1) * 24≤140737488355328:=by omega
       have HQ3:∀ u∈[Value.slice (some ⟨ga,0,none⟩) (1 + path.length) c1],u.oneCell'=true:=by intro u hu;simp at hu;subst hu;rfl
       clear HQQ
       go_wp2_with (at_builtin;refine wpList_append_sl rfl (.tmp 27) (.tmp 35) 30 rfl 22 j0 _ 1 24 Tryz.underlying30 Ji.o Jz0.o Jz1.o Jz2.o rfl (by decide) (some g2) rows2.length c2' _ rfl HPW.o.sl ⟨w1.heap.size,0,none⟩ 1 1 [M (some ⟨ga,0,none⟩) (1 + path.length) c1] rfl rfl (news_row' _ _ _ _ rfl) HQ3 (by decide) HQ1 HQ2 ?hk)
       case hk=>
        intro g3 c3 w3' hs3 hk3 hg3;have hg2s:=HPW.o.sl.lt;have hgls:=HLW.o.sl.lt;have hszA:(w1.alloc (.cells #[M (some ⟨ga,0,none⟩) (1 + path.length) c1] 22)).heap.size=w1.heap.size + 1:=by simp
        rw [hszA] at hg2s hgls;have hgag:ga≠g2:=by omega
        have hgaB:ga < (w1.alloc (.cells #[M (some ⟨ga,0,none⟩) (1 + path.length) c1] 22)).heap.size:=by omega
        have hI3:IntsIn w3' (some ⟨ga,0,none⟩) ((k:Int)::path):=(HI1.o.keepS (Keeps.a1 w1 _) (fun _ _=> by simp)).keepS hk3 (fun ad had=> by cases had;simp;exact hgag);have hpush:=HPW.o.push (r:=⟨some ⟨ga,0,none⟩,c1,(k:Int)::path⟩) (c':=c3) (g:=g3) hk3 (by rcases hg3 with h | h;exact .inl (by rw [h]);exact .inr (by rw [hszA];exact h)) (by simp only [PRow.v,List.length_cons];rw [Nat.add_comm path.length 1];exact hs3) hI3 (by simp only [List.length_cons];have:=HC1.o;omega) (fun ad had=> by cases had;exact ⟨hgaB,by simp;exact hgag⟩);have HPUSH:=gi hpush;have hK3:Keeps [] Y w3':=((HK2.o.trans HK1.o).trans (Keeps.a1 w1 _)).after hk3 (by intro x hx;simp at hx;subst hx;exact .inr hg2);have HK3':=gi hK3;have HGG:=gi (show Y.heap.size≤g3 by
         rcases hg3 with h | h
         ·omega
         ·have:=HK2.o.size;omega)
        have hne3:∀ b,b < w1.heap.size + 1→b≠g2→b≠g3:=fun b h1 h2 h3=> by
         rcases hg3 with h | h
         ·exact h2 (by omega)
         ·omega
        have HLL3:=gi (HLW.o.keepG hk3 (by simp;exact HN2.o.1) (fun r hr ad had=> HN2.o.2 r hr ad had));have HNN3:=gi (show gl≠g3∧∀ r∈rl,∀ ad,r.pa=some ad→ad.block≠g3 from ⟨hne3 gl hgls HN2.o.1,fun r hr ad had=> hne3 _ (by have:=((HLW.o.ints r hr).2.2 ad had).1;rw [hszA] at this;exact this) (HN2.o.2 r hr ad had)⟩);have HRR:=gi (show (rows2 ++ [(⟨some ⟨ga,0,none⟩,c1,(k:Int)::path⟩:PRow)]).map PRow.path=rows.map PRow.path ++ (L.take (t + 1)).map (fun p=> (k:Int)::p) by rw [List.map_append,HR2.o,HTK.o,List.append_assoc];rfl);have HFF:=gi (show ∀ r∈rows2 ++ [(⟨some ⟨ga,0,none⟩,c1,(k:Int)::path⟩:PRow)],∀ ad,r.pa=some ad→Y.heap.size≤ad.block from fun r hr ad had=> by
         rcases List.mem_append.1 hr with hr | hr
         ·exact HF2.o r hr ad had
         ·simp at hr;subst hr;cases had;have:=HK2.o.size;show Y.heap.size≤ga;omega)
        clear hs3 hk3 hg3 hpush hK3 hI3 hne3 hcl HQ3;go_wp2;go_roundw
        case rel=> exact ⟨t + 1,g3,c3,_,by omega,by go_num,by rw [List.length_append];rfl,HRR.o,HPUSH.o,HK3'.o,HGG.o,HFF.o,HLL3.o,HNN3.o.1,HNN3.o.2⟩
        case measure=> simp [intOf];omega
     ·obtain rfl:t=L.length:=by omega
      rw [List.take_length] at HR2;have HREL:=gi (show rows2.map PRow.path=[]::pathsTs 0 ((MRe.trees kids).take (k + 1)) by rw [HR2.o,HRPW.o,HN.o];rfl);go_wp2;go_roundw
      case rel=> exact ⟨k + 1,g2,c2',rows2,by omega,by go_num,rfl,HREL.o,HP2.o,HK2.o,hg2,HF2.o⟩
      case measure=> simp [intOf];omega
   ·obtain rfl:k=kids.length:=by omega
    have hpk:rows.map PRow.path=R:=by rw [HRPW.o,HR0.o,show (MRe.trees kids).take kids.length=MRe.trees kids by rw [←MRe.trees_length kids,List.take_length]]
    go_wp2;go_ret;exact ⟨g,c,rows,by rw [show R.length=rows.length by rw [←hpk,List.length_map]];rfl,hpk,HPA.o,KY.o.trans HKP.o,Nat.le_trans KY.o.size HG.o,fun r hr ad had=> Nat.le_trans KY.o.size (HRF.o r hr ad had)⟩
def kidsP (op:Int):Int × Int:=
 if op=2∨op=3 then (2,-1) else if op=4∨op=5∨op=7∨op=8∨op=9 then (1,1) else if op=10 then (2,2) else (0,0)
theorem rkids_any (op:Int) (w:World):
  Calls Tryz.prog 138 #[H J op] w fun e w'=> e=.returned (.tuple #[H J (kidsP op).1,H J (kidsP op).2])∧w=w':=by
 obtain ⟨p,hp⟩:∃ p,p=kidsP op:=⟨_,rfl⟩;rw [←hp];unfold kidsP at hp;have HP:=gi hp;clear hp
 by_cases hs:op=2∨op=3∨op=4∨op=5∨op=7∨op=8∨op=9∨op=10
 ·rcases hs with rfl | rfl | rfl | rfl | rfl | rfl | rfl | rfl
  all_goals
   go_enter Tryz.func138,Tryz.ntmps138
   go_wp2
   go_ret2
   exact ⟨by rw [HP.o];rfl,rfl⟩
 ·have h2:(op==2)=false:=by simp;omega
  have h3:(op==3)=false:=by simp;omega
  have h4:(op==4)=false:=by simp;omega
  have h5:(op==5)=false:=by simp;omega
  have h7:(op==7)=false:=by simp;omega
  have h8:(op==8)=false:=by simp;omega
  have h9:(op==9)=false:=by simp;omega
  have h10:(op==10)=false:=by simp;omega
  have HP2:=gi (show p=(0,0) by rw [HP.o,if_neg (by omega),if_neg (by omega),if_neg (by omega)]);clear HP hs;go_enter Tryz.func138,Tryz.ntmps138
  go_wp2
  go_ret2
  exact ⟨by rw [HP2.o];rfl,rfl⟩
def badS (top:Int) (pv:Option Int) (s:Int × Int):Bool:=decide (s.1 < 0) || (decide (s.2 < s.1) || (decide (top < s.2) || (match pv with | none=> false | some h=> decide (s.1≤h + 1))))
def spansGo (top:Int):Option Int→List (Int × Int)→Bool
 | _,[]=> true
 | pv,s::r=> !badS top pv s && spansGo top (some s.2) r
def spansB (l:List (Int × Int)) (top:Int):Bool:=decide (l.length≤64) && spansGo top none l
def pvS (l:List (Int × Int)):Nat→Option Int
 | 0=> none
 | k + 1=> (l[k]?).map Prod.snd
theorem pvS_succ {l:List (Int × Int)} {k j:Nat} (h:k=j + 1) (hj:j < l.length):pvS l k=some (l[j]'hj).2:=by
 subst h
 show (l[j]?).map Prod.snd=_
 rw [List.getElem?_eq_getElem hj];rfl
theorem rspans_any (sa:Option Addr) (sc:Nat) (set:List (Int × Int)) (top:Int) (w:World) (hs:SpansIn w sa sc set) (ht:top≤2000000):
  Calls Tryz.prog 139 #[M sa set.length sc,H J top] w fun e w'=> e=.returned (F (spansB set top))∧Keeps [] w w':=by
 obtain ⟨R,hR0⟩:∃ R,R=spansB set top:=⟨_,rfl⟩;rw [←hR0];unfold spansB at hR0;have HS:=gi hs;have hcap:=hs.cap;have hle:=hs.le;unfold maxLen at hcap;clear hs
 by_cases h64:set.length≤64
 ·have HR:=gi (show R=spansGo top none set by rw [hR0];simp [h64]);have HT:=gi ht;clear hR0 ht;go_enter Tryz.func139,Tryz.ntmps139
  go_wp2
  go_loopw [5] (fun i wr=> ∃ k:Nat,k≤set.length∧i=H J k∧spansGo top (pvS set k) (set.drop k)=spansGo top none set∧(∀ h,pvS set k=some h→0≤h∧h≤2000000)∧Keeps [] w wr) (fun i _=> set.length - (intOf i).toNat)
  case atStart=> exact ⟨0,Nat.zero_le _,rfl,rfl,(fun h hh=> by cases hh),Keeps.refl _ _⟩
  case round=>
   obtain ⟨k,hkk,rfl,hgo,hpv,hkp⟩:=hrel;have HKP:=gi hkp;have HGO:=gi hgo;have HPV:=gi hpv;obtain ⟨wo,hwo⟩:∃ wo,wo=wr:=⟨_,rfl⟩;clear hkp hgo hpv
   by_cases hlt:k < set.length
   ·obtain ⟨b,off,rfl,hb,hx⟩:=(HS.o.keep HKP.o).at_ (by omega);obtain ⟨e0,e1⟩:=hx k hlt;have hd:set.drop k=set[k]::set.drop (k + 1):=List.drop_eq_getElem_cons hlt;have hg:=HGO.o;rw [hd,spansGo] at hg;have hp1:pvS set (k + 1)=some set[k].2:=by show (set[k]?).map Prod.snd=_;rw [List.getElem?_eq_getElem hlt];rfl
    obtain ⟨s,hse⟩:∃ s,s=set[k]:=⟨_,rfl⟩;rw [←hse] at e0 e1 hg hp1;obtain ⟨lo,hi⟩:=s;have HG:=gi hg;have HP1:=gi hp1;have hkI:(k:Int) < (set.length:Int):=by omega
    have hk0:(0:Int)≤(k:Int):=by omega
    have HX:=gi hx;clear hg hp1 hd hse hx hb;simp only at e0 e1
    by_cases q1:lo < 0
    ·have d1:decide (lo < 0)=true:=by simpa using q1
     have HBAD:=gi (show badS top (pvS set k) (lo,hi)=true by simp [badS,q1]);go_wp2_with fail
     refine rg (S:=fun w'=> w'.cell? ⟨b,off + k * 2,none⟩=some (H J lo)∧w'.cell? ⟨b,off + k * 2 + 1,none⟩=some (H J hi)) (fun _ k=> ⟨k.c e0,k.c e1⟩) fun kz hHeld=> ?_;refine tk 0 ?_;refine tk 1 ?_;refine tk 2 ?_;refine tk 3 ?_;refine tk 4 ?_;refine tk 5 ?_;refine tk 6 ?_;refine tf 7 ?_;refine tf 8 ?_;refine tf 9 ?_;refine tf 10 ?_;refine tf 11 ?_;refine tf 12 ?_;refine tf 13 ?_;refine tf 14 ?_;refine tf 15 ?_;refine tf 16 ?_;refine tf 17 ?_;refine tk 18 ?_;refine tk 19 ?_;refine tf 20 ?_;refine tf 21 ?_;refine tf 22 ?_;refine tf 23 ?_;refine tf 24 ?_;refine tf 25 ?_;refine tf 26 ?_;refine tk 27 ?_;refine tk 28 ?_;refine tf 29 ?_;refine tf 30 ?_;refine tf 31 ?_;refine tf 32 ?_;refine tf 33 ?_;refine tf 34 ?_;refine tf 35 ?_;refine tf 36 ?_;refine tf 37 ?_;refine tf 38 ?_;refine tf 39 ?_;refine tf 40 ?_;refine tf 41 ?_;refine tf 42 ?_;refine tf 43 ?_;refine tf 44 ?_;refine tf 45 ?_;refine tk 46 ?_;refine wd ?_;clear hHeld;go_wp2;go_ret;exact ⟨by rw [HR.o,←HG.o,HBAD.o];rfl,HKP.o.drew⟩
    ·have d1:decide (lo < 0)=false:=by simpa using q1
     by_cases q2:hi < lo
     ·have d2:decide (hi < lo)=true:=by simpa using q2
      have HBAD:=gi (show badS top (pvS set k) (lo,hi)=true by simp [badS,q2]);go_wp2_with fail
      refine rg (S:=fun w'=> w'.cell? ⟨b,off + k * 2,none⟩=some (H J lo)∧w'.cell? ⟨b,off + k * 2 + 1,none⟩=some (H J hi)) (fun _ k=> ⟨k.c e0,k.c e1⟩) fun kz hHeld=> ?_;refine tk 0 ?_;refine tk 1 ?_;refine tk 2 ?_;refine tk 3 ?_;refine tk 4 ?_;refine tk 5 ?_;refine tk 6 ?_;refine tk 7 ?_;refine tk 8 ?_;refine tk 9 ?_;refine tk 10 ?_;refine tk 11 ?_;refine tk 12 ?_;refine tk 13 ?_;refine tk 14 ?_;refine tk 15 ?_;refine tk 16 ?_;refine tk 17 ?_;refine tk 18 ?_;refine tk 19 ?_;refine tf 20 ?_;refine tf 21 ?_;refine tf 22 ?_;refine tf 23 ?_;refine tf 24 ?_;refine tf 25 ?_;refine tf 26 ?_;refine tk 27 ?_;refine tk 28 ?_;refine tf 29 ?_;refine tf 30 ?_;refine tf 31 ?_;refine tf 32 ?_;refine tf 33 ?_;refine tf 34 ?_;refine tf 35 ?_;refine tf 36 ?_;refine tf 37 ?_;refine tf 38 ?_;refine tf 39 ?_;refine tf 40 ?_;refine tf 41 ?_;refine tf 42 ?_;refine tf 43 ?_;refine tf 44 ?_;refine tf 45 ?_;refine tk 46 ?_;refine wd ?_;clear hHeld;go_wp2;go_ret;exact ⟨by rw [HR.o,←HG.o,HBAD.o];rfl,HKP.o.drew⟩
     ·have d2:decide (hi < lo)=false:=by simpa using q2
      by_cases q3:top < hi
      ·have d3:decide (top < hi)=true:=by simpa using q3
       have HBAD:=gi (show badS top (pvS set k) (lo,hi)=true by simp [badS,q3]);go_wp2_with fail
       refine rg (S:=fun w'=> w'.cell? ⟨b,off + k * 2,none⟩=some (H J lo)∧w'.cell? ⟨b,off + k * 2 + 1,none⟩=some (H J hi)) (fun _ k=> ⟨k.c e0,k.c e1⟩) fun kz hHeld=> ?_;refine tk 0 ?_;refine tk 1 ?_;refine tk 2 ?_;refine tk 3 ?_;refine tk 4 ?_;refine tk 5 ?_;refine tk 6 ?_;refine tk 7 ?_;refine tk 8 ?_;refine tk 9 ?_;refine tk 10 ?_;refine tk 11 ?_;refine tk 12 ?_;refine tk 13 ?_;refine tk 14 ?_;refine tk 15 ?_;refine tk 16 ?_;refine tk 17 ?_;refine tk 18 ?_;refine tk 19 ?_;refine tk 20 ?_;refine tk 21 ?_;refine tk 22 ?_;refine tk 23 ?_;refine tk 24 ?_;refine tk 25 ?_;refine tk 26 ?_;refine tk 27 ?_;refine tk 28 ?_;refine tf 29 ?_;refine tf 30 ?_;refine tf 31 ?_;refine tf 32 ?_;refine tf 33 ?_;refine tf 34 ?_;refine tf 35 ?_;refine tf 36 ?_;refine tf 37 ?_;refine tf 38 ?_;refine tf 39 ?_;refine tf 40 ?_;refine tf 41 ?_;refine tf 42 ?_;refine tf 43 ?_;refine tf 44 ?_;refine tf 45 ?_;refine tk 46 ?_;refine wd ?_;clear hHeld;go_wp2;go_ret;exact ⟨by rw [HR.o,←HG.o,HBAD.o];rfl,HKP.o.drew⟩
      ·have d3:decide (top < hi)=false:=by simpa using q3
       by_cases hkz:k=0
       ·have hk9:¬ 0 < k:=by omega
        have hk8:¬ (0:Int) < (k:Int):=by omega
        have HBAD:=gi (show badS top (pvS set k) (lo,hi)=false by rw [hkz];simp [badS,q1,q2,q3,pvS]);have HKZ:=gi hkz;clear hkz;go_wp2_with fail
        refine rg (S:=fun w'=> w'.cell? ⟨b,off + k * 2,none⟩=some (H J lo)∧w'.cell? ⟨b,off + k * 2 + 1,none⟩=some (H J hi)) (fun _ k=> ⟨k.c e0,k.c e1⟩) fun kz hHeld=> ?_;refine tk 0 ?_;refine tk 1 ?_;refine tk 2 ?_;refine tk 3 ?_;refine tk 4 ?_;refine tk 5 ?_;refine tk 6 ?_;refine tk 7 ?_;refine tk 8 ?_;refine tk 9 ?_;refine tk 10 ?_;refine tk 11 ?_;refine tk 12 ?_;refine tk 13 ?_;refine tk 14 ?_;refine tk 15 ?_;refine tk 16 ?_;refine tk 17 ?_;refine tk 18 ?_;refine tk 19 ?_;refine tk 20 ?_;refine tk 21 ?_;refine tk 22 ?_;refine tk 23 ?_;refine tk 24 ?_;refine tk 25 ?_;refine tk 26 ?_;refine tk 27 ?_;refine tk 28 ?_;refine tk 29 ?_;refine tk 30 ?_;refine tk 31 ?_;refine tf 32 ?_;refine tf 33 ?_;refine tf 34 ?_;refine tf 35 ?_;refine tf 36 ?_;refine tf 37 ?_;refine tf 38 ?_;refine tf 39 ?_;refine tf 40 ?_;refine tf 41 ?_;refine tf 42 ?_;refine tf 43 ?_;refine tf 44 ?_;refine tk 45 ?_;refine tk 46 ?_;refine wd ?_;clear hHeld;go_wp2;go_roundw
        case rel=> exact ⟨k + 1,by omega,by go_num,by rw [HP1.o,←HG.o,HBAD.o];rfl,(fun h hh=> by rw [HP1.o] at hh;cases hh;have:=HT.o;omega),HKP.o.drew⟩
        case measure=> simp [intOf];omega
       ·obtain ⟨j,hj⟩:∃ j,k=j + 1:=⟨k - 1,by omega⟩;have hk9:0 < k:=by omega
        have hk8:(0:Int) < (k:Int):=by omega
        have hj2:j < set.length:=by omega
        have e2:=(HX.o j hj2).2;have hpj:=pvS_succ hj hj2;obtain ⟨s,hse⟩:∃ s,s=set[j]'hj2:=⟨_,rfl⟩;rw [←hse] at e2 hpj;obtain ⟨pl,ph⟩:=s;obtain ⟨hh0,hh1⟩:=HPV.o ph hpj;simp only at e2;have HPJ:=gi hpj;have hw1:IntKind.i64.wrap ((k:Int) - 1)=(j:Int):=by rw [IntWalk.i64_in _ (by omega)];omega
        have hw2:IntKind.i64.wrap (ph + 1)=ph + 1:=IntWalk.i64_in _ (by omega);have hj0:(0:Int)≤(j:Int):=by omega
        have hj1:(j:Int) < (set.length:Int):=by omega
        clear hse hpj hj hkz
        by_cases q4:lo≤ph + 1
        ·have d4:decide (lo≤ph + 1)=true:=by simpa using q4
         have HBAD:=gi (show badS top (pvS set k) (lo,hi)=true by rw [HPJ.o];simp [badS,q4]);go_wp2_with fail
         refine rg (S:=fun w'=> w'.cell? ⟨b,off + k * 2,none⟩=some (H J lo)∧w'.cell? ⟨b,off + k * 2 + 1,none⟩=some (H J hi)∧w'.cell? ⟨b,off + j * 2 + 1,none⟩=some (H J ph)) (fun _ k=> ⟨k.c e0,k.c e1,k.c e2⟩) fun kz hHeld=> ?_;refine tk 0 ?_;refine tk 1 ?_;refine tk 2 ?_;refine tk 3 ?_;refine tk 4 ?_;refine tk 5 ?_;refine tk 6 ?_;refine tk 7 ?_;refine tk 8 ?_;refine tk 9 ?_;refine tk 10 ?_;refine tk 11 ?_;refine tk 12 ?_;refine tk 13 ?_;refine tk 14 ?_;refine tk 15 ?_;refine tk 16 ?_;refine tk 17 ?_;refine tk 18 ?_;refine tk 19 ?_;refine tk 20 ?_;refine tk 21 ?_;refine tk 22 ?_;refine tk 23 ?_;refine tk 24 ?_;refine tk 25 ?_;refine tk 26 ?_;refine tk 27 ?_;refine tk 28 ?_;refine tk 29 ?_;refine tk 30 ?_;refine tk 31 ?_;refine tk 32 ?_;refine tk 33 ?_;refine tk 34 ?_;refine tk 35 ?_;refine tk 36 ?_;refine tk 37 ?_;refine tk 38 ?_;refine tk 39 ?_;refine tk 40 ?_;refine tk 41 ?_;refine tk 42 ?_;refine tk 43 ?_;refine tk 44 ?_;refine tk 45 ?_;refine tk 46 ?_;refine wd ?_;clear hHeld;go_wp2;go_ret;exact ⟨by rw [HR.o,←HG.o,HBAD.o];rfl,HKP.o.drew⟩
        ·have d4:decide (lo≤ph + 1)=false:=by simpa using q4
         have HBAD:=gi (show badS top (pvS set k) (lo,hi)=false by rw [HPJ.o];simp [badS,q1,q2,q3,q4]);go_wp2_with fail
         refine rg (S:=fun w'=> w'.cell? ⟨b,off + k * 2,none⟩=some (H J lo)∧w'.cell? ⟨b,off + k * 2 + 1,none⟩=some (H J hi)∧w'.cell? ⟨b,off + j * 2 + 1,none⟩=some (H J ph)) (fun _ k=> ⟨k.c e0,k.c e1,k.c e2⟩) fun kz hHeld=> ?_;refine tk 0 ?_;refine tk 1 ?_;refine tk 2 ?_;refine tk 3 ?_;refine tk 4 ?_;refine tk 5 ?_;refine tk 6 ?_;refine tk 7 ?_;refine tk 8 ?_;refine tk 9 ?_;refine tk 10 ?_;refine tk 11 ?_;refine tk 12 ?_;refine tk 13 ?_;refine tk 14 ?_;refine tk 15 ?_;refine tk 16 ?_;refine tk 17 ?_;refine tk 18 ?_;refine tk 19 ?_;refine tk 20 ?_;refine tk 21 ?_;refine tk 22 ?_;refine tk 23 ?_;refine tk 24 ?_;refine tk 25 ?_;refine tk 26 ?_;refine tk 27 ?_;refine tk 28 ?_;refine tk 29 ?_;refine tk 30 ?_;refine tk 31 ?_;refine tk 32 ?_;refine tk 33 ?_;refine tk 34 ?_;refine tk 35 ?_;refine tk 36 ?_;refine tk 37 ?_;refine tk 38 ?_;refine tk 39 ?_;refine tk 40 ?_;refine tk 41 ?_;refine tk 42 ?_;refine tk 43 ?_;refine tk 44 ?_;refine tk 45 ?_;refine tk 46 ?_;refine wd ?_;clear hHeld;go_wp2;go_roundw
         case rel=> exact ⟨k + 1,by omega,by go_num,by rw [HP1.o,←HG.o,HBAD.o];rfl,(fun h hh=> by rw [HP1.o] at hh;cases hh;have:=HT.o;omega),HKP.o.drew⟩
         case measure=> simp [intOf];omega
   ·obtain rfl:k=set.length:=by omega
    have H0:=gi (show R=true by rw [HR.o,←HGO.o,List.drop_length,spansGo]);go_wp2;go_ret;exact ⟨by rw [H0.o];rfl,HKP.o⟩
 ·have HR:=gi (show R=false by rw [hR0];simp [h64]);clear hR0 ht;go_enter Tryz.func139,Tryz.ntmps139
  go_wp2;go_ret;exact ⟨by rw [HR.o];rfl,Keeps.refl _ _⟩
end Go.Proofs.YtjnlkjlbejelgaaGreat
