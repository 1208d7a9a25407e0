/- Part 38 of the proof. No condition: every lemma says its own. -/
import Derived.Test.YtjnlkjlbejelgaaGreatLbk
import Derived.Test.YtjnlkjlbejelgaaGreatLax
namespace Go.Proofs.YtjnlkjlbejelgaaGreat
open Go.RowKit
open Go.Value renaming int→H,slice→M,bool→F
open Go.IntKind renaming i64→J
set_option maxRecDepth 100000
set_option maxHeartbeats 16000000
theorem pathsTs_mem {p:List Int}:∀ (l:List Tree) (i:Int),p∈pathsTs i l→∃ (k:Nat) (h:k < l.length) (q:List Int),p=(i + k)::q∧q∈pathsT l[k]:=by
 intro l
 induction l with
 | nil=> intro i h;simp [pathsTs] at h
 | cons x r ih=>
  intro i h;simp only [pathsTs,List.mem_append,List.mem_map] at h
  rcases h with ⟨q,hq,rfl⟩ | h
  ·exact ⟨0,by simp,q,by simp,hq⟩
  ·obtain ⟨k,hk,q,rfl,hq⟩:=ih (i + 1) h;exact ⟨k + 1,by simpa using hk,q,by rw [show i + 1 + (k:Int)=i + ((k + 1:Nat):Int) by omega],by simpa using hq⟩
theorem paths_at:∀ (p:List Int) {t:Tree},p∈pathsT t→∃ x,atT t p=some x:=by
 intro p
 induction p with
 | nil=> intro t _;exact ⟨t,rfl⟩
 | cons x r ih=>
  intro t h
  cases t with
  | node op set kids mn mx mode n neg=>
   simp only [pathsT,List.mem_cons,reduceCtorEq,false_or] at h;obtain ⟨k,hk,q,hq,hm⟩:=pathsTs_mem kids 0 h;rw [Int.zero_add] at hq
   cases hq
   obtain ⟨y,hy⟩:=ih hm;refine ⟨y,?_⟩;rw [atT,if_pos (by simp only [Tree.kids];omega)]
   simpa [Tree.kids,hk] using hy
def okOf (t:Tree) (cp:Int) (ru:Bool) (p:List Int):Option Tree→Bool
 | none=> false
 | some y=> (putV t cp ru p y).isSome
def okStep (t:Tree) (cp:Int) (ru:Bool) (p:List Int) (r:Nat):Bool:=
 match atT t p with
 | none=> false
 | some x=> okOf t cp ru p (ruleR r x)
def stepsAt (t:Tree) (cp:Int) (ru:Bool) (p:List Int):Nat→List (Int × List Int)
 | 0=> []
 | k + 1=> stepsAt t cp ru p k ++ if okStep t cp ru p k then [((k:Int),p)] else []
def stepsR (t:Tree) (cp:Int) (ru:Bool):List (Int × List Int):=(pathsT t).flatMap fun p=> stepsAt t cp ru p 17
def StSep (W:World) (e lo:Nat) (a:Option Nat) (c:Nat) (rows:List SRow):Prop:=
 StepsAt W e a c rows∧(∀ g,a=some g→lo≤g)∧∀ r∈rows,∀ ad,r.pa=some ad→ad.block < W.heap.size∧some ad.block≠a
theorem StSep.keep {W W':World} {e lo:Nat} {a:Option Nat} {c:Nat} {rows:List SRow} (h:StSep W e lo a c rows) (k:Keeps [] W W'):StSep W' e lo a c rows:=
 ⟨h.1.keep0 k,h.2.1,fun r hr ad had=> ⟨Nat.lt_of_lt_of_le (h.2.2 r hr ad had).1 k.size,(h.2.2 r hr ad had).2⟩⟩
theorem StSep.push {W W':World} {e lo:Nat} {a:Option Nat} {c c' g:Nat} {rows:List SRow} {r:SRow} (h:StSep W e lo a c rows) (hlo:lo≤W.heap.size) (k:Keeps a.toList W W') (hg:a=some g∨W.heap.size≤g) (hs:SliceAt W' e 2 (some g) (rows.length + 1) c' (flatS rows ++ [H J r.rule,M r.pa r.path.length r.pc]))
  (hr:IntsIn W' r.pa r.path) (hn:∀ ad,r.pa=some ad→ad.block < W.heap.size∧some ad.block≠a):StSep W' e lo (some g) c' (rows ++ [r]):=by
 have hne:∀ b,b < W.heap.size→some b≠a→some b≠some g:=fun b h1 h2 h3=> by
  cases h3
  rcases hg with h | h
  ·exact h2 h.symm
  ·omega
 refine ⟨⟨by rw [flatS_append,List.length_append];exact hs,fun x hx=> ?_⟩,fun y hy=> ?_,fun x hx ad had=> ?_⟩
 ·rcases List.mem_append.1 hx with hx | hx
  ·exact (h.1.ints x hx).keepS k (fun ad had hm=> (h.2.2 x hx ad had).2 (by simpa using (show some ad.block=a from (by simpa using hm:a=some ad.block).symm)))
  ·simp at hx;subst hx;exact hr
 ·cases hy
  rcases hg with h1 | h1
  ·exact h.2.1 g h1
  ·omega
 ·rcases List.mem_append.1 hx with hx | hx
  ·exact ⟨Nat.lt_of_lt_of_le (h.2.2 x hx ad had).1 k.size,hne _ (h.2.2 x hx ad had).1 (h.2.2 x hx ad had).2⟩
  ·simp at hx;subst hx;exact ⟨Nat.lt_of_lt_of_le (hn ad had).1 k.size,hne _ (hn ad had).1 (hn ad had).2⟩
theorem IntsIn.nil_of {w:World} {xs:List Int} (h:IntsIn w none xs):xs=[]:=by
 cases xs with
 | nil=> rfl
 | cons x r=> obtain ⟨b,off,h1,_⟩:=h (by simp);cases h1
theorem tableName (k:Nat) (h:k < 17):∃ b,tableCells[k * 2]? =some (.string b):=by
 obtain rfl | rfl | rfl | rfl | rfl | rfl | rfl | rfl | rfl | rfl | rfl | rfl | rfl | rfl | rfl | rfl | rfl:k=0∨k=1∨k=2∨k=3∨k=4∨k=5∨k=6∨k=7∨k=8∨k=9∨k=10∨k=11∨k=12∨k=13∨k=14∨k=15∨k=16:=by omega
 all_goals exact ⟨_,rfl⟩
def StepsPost (w:World) (t:Tree) (cp:Int) (ru:Bool) (e:Ending) (w':World):Prop:=
 ∃ a c rows,e=.returned (.tuple #[sv a rows.length c,H J (validE t cp ru)])∧StepsAt w' 61 a c rows∧Keeps [] w w'∧rows.map SRow.s=if validE t cp ru=0 then stepsR t cp ru else []
theorem SRow.map_s (rows:List SRow) (r:SRow):(rows ++ [r]).map SRow.s=rows.map SRow.s ++ [(r.rule,r.path)]:=by simp [SRow.s]
theorem psteps_any (m:MRe) (cp:Int) (ru:Bool) (w:World) (k1:m.OK w):
  Calls Tryz.prog 24 #[patVal m cp ru] w (StepsPost w m.tree cp ru):=by
 obtain ⟨i0,hi,hz0,hz1,hz2⟩:=info_parts infoRS;have Hi:=gi hi;have Hz0:=gi hz0;have Hz1:=gi hz1;have Hz2:=gi hz2;clear hi hz0 hz1 hz2;obtain ⟨B,hBe⟩:∃ B,B=w.heap.size:=⟨_,rfl⟩;obtain ⟨X,hXe⟩:∃ X,X=w.alloc (.cells (m.row ++ [H J cp,Value.bool ru]).toArray 28):=⟨_,rfl⟩;have hkX:Keeps [] w X:=by rw [hXe];exact Keeps.a1 _ _
 have hb1:X.heap[B]? =some (.cells (m.row ++ [H J cp,Value.bool ru]).toArray 28 (0,0)):=by rw [hXe,hBe];exact heap_alloc_new w _
 have HV:=gi (avalid_any m cp ru X (k1.keep hkX));obtain ⟨T,hT⟩:∃ T,T=m.tree:=⟨_,rfl⟩;unfold StepsPost;obtain ⟨ve,hve⟩:∃ v,v=validE T cp ru:=⟨_,rfl⟩;have HVO:=gi (show ve=0→T.WF∧T.bulk≤16640 from fun h=> by have:=valid_ok (hve ▸ h);exact ⟨this.1,this.2.1⟩);have HPA:=gi (fun (W:World) (h:Keeps [] X W) (h2:T.bulk≤1000000)=> (hT ▸ apaths_any m W ((k1.keep hkX).keep h) (hT ▸ h2):Calls Tryz.prog 60 #[m.val] W (PathsPost W T)));have HPUT:=gi (fun (W:World) (h:Keeps [] X W) (p:MRe) (path:List Int) (pa:Option Addr) (pc:Nat) (hin:IntsIn W pa path) (hl:path.length≤1000000) (h1:p.OK W) (h2:m.tree.bulk≤1000000) (h3:p.tree.bulk≤1000000)=> rput2_any m p cp ru path pa pc W ((k1.keep hkX).keep h) h1 hin hl h2 h3);have HAT:=gi (fun (W:World) (h:Keeps [] X W) (path:List Int) (pa:Option Addr) (pc:Nat) (hin:IntsIn W pa path) (hl:path.length≤1000000) (h2:m.tree.bulk≤1000000)=> aat_any m path pa pc W ((k1.keep hkX).keep h) hin hl h2);rw [←hT] at HV HPUT HAT ⊢;rw [←hve] at HV ⊢;have HBE:=gi hBe;have HKX:=gi hkX;obtain ⟨op1,sa1,sc1,set1,ka1,kc1,kids1,mn1,mx1,mode1,n1,neg1⟩:=m;have HXE:=gi (show X=w.alloc (.cells #[H J op1,M sa1 set1.length sc1,M ka1 kids1.length kc1,H J mn1,H J mx1,H J mode1,H J n1,F neg1,H J cp,F ru] 28) from hXe);simp only [MRe.val,patVal,MRe.row,List.cons_append,List.nil_append] at HV HPA HPUT HAT;obtain ⟨c0,c1,c2,c3,c4,c5,c6,c7,c8,c9,cf⟩:=row10_cells (show X.heap[B]? =some (.cells #[H J op1,M sa1 set1.length sc1,M ka1 kids1.length kc1,H J mn1,H J mx1,H J mode1,H J n1,F neg1,H J cp,F ru] 28 (0,0)) from hb1)
 show Calls Tryz.prog 24 #[.agg #[H J op1,M sa1 set1.length sc1,M ka1 kids1.length kc1,H J mn1,H J mx1,H J mode1,H J n1,F neg1,H J cp,F ru]] w _
 clear hBe hXe hkX hb1 k1 cf hT hve;go_enter Tryz.func24,Tryz.ntmps24
 go_upto_region 1 with fail
 rw [←HXE.o,←HBE.o];go_wp2_with fail
 refine Calls.mono HV.o ?_;rintro e w2 ⟨rfl,hk2⟩;have K2:=gi hk2;have hc8:=hk2.c8 c0 c1 c2 c3 c4 c5 c6 c7;clear c0 c1 c2 c3 c4 c5 c6 c7;obtain ⟨c0,c1,c2,c3,c4,c5,c6,c7⟩:=hc8;replace c8:=hk2.c c8;replace c9:=hk2.c c9;clear hk2 HV
 by_cases hv:ve=0
 rotate_left
 ·have hvb:(ve !=0)=true:=by simpa using hv
  have HK:=gi (HKX.o.trans K2.o);clear c0 c1 c2 c3 c4 c5 c6 c7 c8 c9;go_wp2
  go_ret2
  exact ⟨none,0,[],rfl,⟨SliceAt.nil _ _ _,by simp⟩,HK.o,by simp⟩
 obtain ⟨hwf,hbk⟩:=HVO.o hv;subst hv;have HWF:=gi hwf;have HBK:=gi hbk;clear hwf hbk HVO;go_wp2_with fail
 refine Calls.mono (table_any _) ?_;rintro e w3 ⟨g,rfl,htab,hk3,hg⟩;have K3:=gi (K2.o.trans hk3);have hc8:=hk3.c8 c0 c1 c2 c3 c4 c5 c6 c7;clear c0 c1 c2 c3 c4 c5 c6 c7;obtain ⟨c0,c1,c2,c3,c4,c5,c6,c7⟩:=hc8;replace c8:=hk3.c c8;replace c9:=hk3.c c9;have HTAB:=gi htab;clear hk3 htab hg K2;go_wp2_with fail
 refine Calls.mono (HPA.o _ K3.o (by have:=HBK.o;omega)) ?_;rintro e w4 ⟨gp,pcc,prow,rfl,hpn,hpa,hk4,hgp,hpf⟩;have hpl:prow.length=(pathsT T).length:=by rw [←hpn,List.length_map]
 have K4:=gi (K3.o.trans hk4);have HPN:=gi hpn;have HPT:=gi hpa;have HTB:=gi (hk4.h HTAB.o);have hc8:=hk4.c8 c0 c1 c2 c3 c4 c5 c6 c7;clear c0 c1 c2 c3 c4 c5 c6 c7;obtain ⟨c0,c1,c2,c3,c4,c5,c6,c7⟩:=hc8;replace c8:=hk4.c c8;replace c9:=hk4.c c9;have HPL:=gi (show prow.length≤20000 by have:=(paths_length T).1;have:=(size_depth T).1;have:=HBK.o;omega);have HPP:=gi (show ∀ r∈prow,r.path.length≤1000000∧r.path∈pathsT T from fun r hr=> by
  have h1:r.path∈pathsT T:=by rw [←hpn];exact List.mem_map_of_mem hr
  have:=(paths_length T).2 _ h1
  have:=HBK.o
  exact ⟨by omega,h1⟩)
 rw [←hpl];clear hk4 hpn hpa hgp hpf hpl HPA HTAB K3;go_wp2
 go_loopw [6,27] (fun v i wr=> ∃ (k:Nat) (a:Option Nat) (c:Nat) (rows:List SRow),k≤prow.length∧i=H J k∧v=sv a rows.length c∧StSep wr 61 w4.heap.size a c rows∧Keeps [] w4 wr∧rows.map SRow.s=((pathsT T).take k).flatMap (fun p=> stepsAt T cp ru p 17)∧rows.length≤17 * k) (fun _ i _=> prow.length - (intOf i).toNat)
 case atStart=> exact ⟨0,none,0,[],Nat.zero_le _,rfl,rfl,⟨⟨SliceAt.nil _ _ _,by simp⟩,by simp,by simp⟩,Keeps.refl _ _,rfl,by simp⟩
 case round=>
  obtain ⟨wo,hwo⟩:∃ wo,wo=wr:=⟨_,rfl⟩;subst hwo;obtain ⟨k,a,c,rows,hk,rfl,rfl,hst,hkr,hrn,hrl⟩:=hrel;have HST:=gi hst;have KR:=gi hkr;have HRN:=gi hrn;have HRL:=gi hrl;clear hst hkr hrn hrl
  by_cases hlt:k < prow.length
  ·have hPW:=HPT.o.keep KR.o;have d1:=hPW.cell k hlt;have HRI:=gi (HPT.o.ints prow[k] (List.getElem_mem hlt)).1;have HLE:=gi (HPP.o prow[k] (List.getElem_mem hlt));have hlt':k < (pathsT T).length:=by rw [←HPN.o,List.length_map];exact hlt
   have hpk:(pathsT T)[k]=prow[k].path:=by simp only [←HPN.o,List.getElem_map]
   have HTK:=gi (show ((pathsT T).take (k + 1)).flatMap (fun p=> stepsAt T cp ru p 17)=((pathsT T).take k).flatMap (fun p=> stepsAt T cp ru p 17) ++ stepsAt T cp ru prow[k].path 17 by
    rw [List.take_succ_eq_append_getElem hlt',List.flatMap_append,hpk];simp)
   generalize prow[k]=pr at *
   obtain ⟨pa,pc,path⟩:=pr;simp only at d1 HRI HLE;have HTK:=gi (show ((pathsT T).take (k + 1)).flatMap (fun p=> stepsAt T cp ru p 17)=((pathsT T).take k).flatMap (fun p=> stepsAt T cp ru p 17) ++ stepsAt T cp ru path 17 from HTK.o);obtain ⟨x,hx⟩:=paths_at path HLE.o.2;have hxo:=atT_ok path HWF.o hx;have HX:=gi hx;have HXO:=gi hxo;have HCL:=gi (fun (W:World) (h:Keeps [] wo W)=> HAT.o W ((K4.o.trans KR.o).trans h) path pa pc (HRI.o.keepS (KR.o.trans h) (fun _ _=> by simp)) HLE.o.1 (by have:=HBK.o;omega));rw [hx] at HCL;obtain ⟨e0,e1,e2,e3,e4,e5,e6,e7⟩:=KR.o.c8 c0 c1 c2 c3 c4 c5 c6 c7;have e8:=KR.o.c c8;have e9:=KR.o.c c9;clear hPW hlt' hpk hx hxo;go_wp2_with fail
   refine Calls.mono (HCL.o _ (Keeps.refl [] wo)) ?_;rintro e w5 ⟨q,rfl,hqt,hqo,hk5,hqf⟩;obtain ⟨q0,hq0⟩:∃ q0,q0=q:=⟨_,rfl⟩;rw [←hq0] at hqt hqo hqf;have Q0:=gi hq0;have QT:=gi (show q0.tree=x from hqt);have QO:=gi hqo;have QF:=gi (show ∀ b∈q0.blocks,wo.heap.size≤b from fun b hb=> by rcases hqf b hb with h | h;cases h;exact h);obtain ⟨op9,sa9,sc9,set9,ka9,kc9,kids9,mn9,mx9,mode9,n9,neg9⟩:=q;simp only [MRe.val,Option.isSome_some,if_true];have K5:=gi (KR.o.trans hk5);clear hqt hqf hqo hq0 HCL e0 e1 e2 e3 e4 e5 e6 e7 e8 e9;go_upto_region 10 with fail
   obtain ⟨V,hVe⟩:∃ V,V=w5.alloc (.cells #[H J op9,M sa9 set9.length sc9,M ka9 kids9.length kc9,H J mn9,H J mx9,H J mode9,H J n9,F neg9] 26):=⟨_,rfl⟩;obtain ⟨G9,hG9⟩:∃ G9,G9=w5.heap.size:=⟨_,rfl⟩;have hkV:Keeps [] w5 V:=by rw [hVe];exact Keeps.a1 _ _
   have hg9:V.heap[G9]? =some (.cells #[H J op9,M sa9 set9.length sc9,M ka9 kids9.length kc9,H J mn9,H J mx9,H J mode9,H J n9,F neg9] 26 (0,0)):=by rw [hVe,hG9];exact heap_alloc_new w5 _
   have HG9:=gi hg9;rw [←hVe,←hG9];have KV:=gi (K5.o.trans hkV);have QV:=gi (QO.o.keep hkV);have HSV:=gi (HST.o.keep (hk5.trans hkV));have HG9N:=gi (show wo.heap.size≤G9 by rw [hG9];exact hk5.size);have HNV:=gi (show ∀ y,a=some y→y < wo.heap.size∨V.heap.size≤y from fun y hy=> by left;subst hy;exact HST.o.1.sl.lt);clear hVe hG9 hkV hg9 QO K5 hk5 HST d1;go_wp2
   go_loopw [6,42] (fun v j wl=> ∃ (r:Nat) (a:Option Nat) (c:Nat) (rows:List SRow),r≤17∧j=H J r∧v=sv a rows.length c∧StSep wl 61 w4.heap.size a c rows∧Keeps [] w4 wl∧Keeps (List.range wo.heap.size) V wl∧(∀ y,a=some y→y < wo.heap.size∨V.heap.size≤y)∧rows.map SRow.s=((pathsT T).take k).flatMap (fun p=> stepsAt T cp ru p 17) ++ stepsAt T cp ru path r∧rows.length≤17 * k + r) (fun _ j _=> 17 - (intOf j).toNat)
   case atStart=> exact ⟨0,a,c,rows,by omega,rfl,rfl,HSV.o,KV.o,Keeps.refl _ _,HNV.o,by rw [HRN.o];simp [stepsAt],by have:=HRL.o;omega⟩
   case round=>
    obtain ⟨r,a,c,rows,hr,rfl,rfl,hst,hkw,hkl,hnv,hrn,hrl⟩:=hrel;have HST:=gi hst;have KL:=gi hkl;have KW:=gi hkw;have HNA:=gi hnv;have HRW:=gi hrn;have HRC:=gi hrl;clear hst hkl hrn hrl hkw hnv
    by_cases hrt:r < 17
    ·obtain ⟨nb,hnb⟩:=tableName r hrt;have HTL:=gi (KW.o.h HTB.o);have x0:wr.cell? ⟨g,r * 2,none⟩=some (.string nb):=by simp only [World.cell?,HTL.o];exact hnb
     have x1:wr.cell? ⟨g,r * 2 + 1,none⟩=some (.func (Fn.func (ruleFn r)) #[] #[]):=table_cell HTL.o r hrt;have HRU:=fun (W:World) (h:Keeps (List.range wo.heap.size) V W)=> (show Calls Tryz.prog (ruleFn r) #[q0.val] W (AnyPost W q0.blocks (ruleR r x)) from by
      have h0:=prule_any r hrt q0 W (QV.o.keepS h (fun b hb hm=> by have:=QF.o b hb;have:=List.mem_range.1 hm;omega)) (by rw [QT.o];exact HXO.o.1) (by rw [QT.o];have:=HXO.o.2;have:=HBK.o;omega);rw [QT.o] at h0;exact Calls.mono h0 fun _ _ h=> RulePost.any h)
     obtain ⟨O,hO⟩:∃ O,O=ruleR r x:=⟨_,rfl⟩;rw [←hO] at HRU;have HOB:=gi (show ∀ y,O=some y→y.bulk≤1000000 from fun y h=> by rw [hO] at h;have:=ruleR_bulk hrt h;have:=HXO.o.2;have:=HBK.o;omega);have HOK:=gi (show okStep T cp ru path r=okOf T cp ru path O by unfold okStep;rw [HX.o,hO]);have HNX:=gi (show stepsAt T cp ru path (r + 1)=stepsAt T cp ru path r ++ if okStep T cp ru path r then [((r:Int),path)] else [] from rfl);rw [HOK.o] at HNX;rw [Q0.o] at HRU;simp only [MRe.val] at HRU;have HRU:=gi HRU;have he:=enters_rule r hrt;unfold Enters at he;obtain ⟨F',hF⟩:∃ F',F'=ruleFn r:=⟨_,rfl⟩;rw [←hF] at HRU he x1;have hri:(r:Int) < 17:=by omega
     have hr0:(0:Int)≤(r:Int):=by omega
     have HG:=gi (KL.o.heap HG9.o (fun hm=> by have:=HG9N.o;have:=List.mem_range.1 hm;omega));obtain ⟨e0,e1,e2,e3,e4,e5,e6,e7⟩:=row_cells HG.o;clear hnb hO hF HOK;go_upto_region 14 with fail
     obtain ⟨Z,hZe⟩:∃ Z,Z=wr.alloc (.cells #[.string nb,.func (Fn.func F') #[] #[]] 80):=⟨_,rfl⟩;obtain ⟨G12,hG12⟩:∃ G,G=wr.heap.size:=⟨_,rfl⟩;have hkZ:Keeps [] wr Z:=by rw [hZe];exact Keeps.a1 _ _
     have hg12:Z.heap[G12]? =some (.cells #[.string nb,.func (Fn.func F') #[] #[]] 80 (0,0)):=by rw [hZe,hG12];exact heap_alloc_new wr _
     rw [←hZe,←hG12];have KZ:=gi (KL.o.trans (hkZ.mono (by simp)));have WZ:=gi (KW.o.trans hkZ);have s1:Z.cell? ⟨G12,1,none⟩=some (.func (Fn.func F') #[] #[]):=by simp [World.cell?,hg12]
     have hc8:=hkZ.c8 e0 e1 e2 e3 e4 e5 e6 e7;clear e0 e1 e2 e3 e4 e5 e6 e7;obtain ⟨e0,e1,e2,e3,e4,e5,e6,e7⟩:=hc8;have HSZ:=gi (HST.o.keep hkZ);clear hZe hG12 hkZ hg12 x0 x1 HST HTL;go_wp2_with fail
     refine Calls.mono (HRU.o _ KZ.o) ?_;rintro ee w6 ⟨q2,rfl,hqt,hqo,hk6,hqf⟩;obtain ⟨q5,hq5⟩:∃ q5,q5=q2:=⟨_,rfl⟩;rw [←hq5] at hqt hqo hqf;have Q5:=gi hq5;have QT5:=gi hqt;have QO5:=gi hqo;obtain ⟨op5,sa5,sc5,set5,ka5,kc5,kids5,mn5,mx5,mode5,n5,neg5⟩:=q2;simp only [MRe.val];have K6:=gi (KZ.o.trans (hk6.mono (by simp)));have W6:=gi (WZ.o.trans hk6);have HS6:=gi (HSZ.o.keep hk6);clear hqt hqo hk6 hqf hq5 HSZ HRU he e0 e1 e2 e3 e4 e5 e6 e7 s1;go_upto_region 15 with fail
     obtain ⟨U,hUe⟩:∃ U,U=w6.alloc (.cells #[H J op5,M sa5 set5.length sc5,M ka5 kids5.length kc5,H J mn5,H J mx5,H J mode5,H J n5,F neg5] 26):=⟨_,rfl⟩;obtain ⟨G13,hG13⟩:∃ G,G=w6.heap.size:=⟨_,rfl⟩;have hkU:Keeps [] w6 U:=by rw [hUe];exact Keeps.a1 _ _
     have hg13:U.heap[G13]? =some (.cells #[H J op5,M sa5 set5.length sc5,M ka5 kids5.length kc5,H J mn5,H J mx5,H J mode5,H J n5,F neg5] 26 (0,0)):=by rw [hUe,hG13];exact heap_alloc_new w6 _
     rw [←hUe,←hG13];have KU:=gi (K6.o.trans (hkU.mono (by simp)));have WU:=gi (W6.o.trans hkU);have HSU:=gi (HS6.o.keep hkU);have QU:=gi (QO5.o.keep hkU);have HG13:=gi hg13;clear hUe hG13 hkU hg13 HS6 QO5 K6
     cases O with
     | none=>
      simp only [Option.isSome_none];have HN2:=gi (show rows.map SRow.s=((pathsT T).take k).flatMap (fun p=> stepsAt T cp ru p 17) ++ stepsAt T cp ru path (r + 1) by rw [HNX.o,HRW.o];simp [okOf]);go_wp2;go_roundw
      case rel=> exact ⟨r + 1,a,c,rows,by omega,by go_num,rfl,HSU.o,WU.o,KU.o,HNA.o,HN2.o,by have:=HRC.o;omega⟩
      case measure=> simp [intOf];omega
     | some y=>
      simp only [Option.isSome_some];obtain ⟨f0,f1,f2,f3,f4,f5,f6,f7⟩:=row_cells HG13.o;have kXU:=K4.o.trans WU.o;have HPW:=HPUT.o U kXU q5 path pa pc (HRI.o.keepS WU.o (fun _ _=> by simp)) HLE.o.1 QU.o (by have:=HBK.o;omega) (by have h:q5.tree=y:=QT5.o;rw [h];exact HOB.o y rfl);rw [show q5.tree=y from QT5.o,Q5.o] at HPW;have HPW:=gi HPW;have HNY:=gi (show stepsAt T cp ru path (r + 1)=stepsAt T cp ru path r ++ if (putV T cp ru path y).isSome then [((r:Int),path)] else [] from HNX.o);obtain ⟨P,hP⟩:∃ P,P=putV T cp ru path y:=⟨_,rfl⟩;rw [←hP] at HPW HNY;obtain ⟨e0,e1,e2,e3,e4,e5,e6,e7⟩:=WU.o.c8 c0 c1 c2 c3 c4 c5 c6 c7;have e8:=WU.o.c c8;have e9:=WU.o.c c9;clear hP HNX kXU;go_wp2_with fail
      refine Calls.mono HPW.o ?_;rintro e w7 ⟨q8,cp8,ru8,rfl,hqt,hcp,hru,hqo,hk7,hqf⟩;clear hqt hcp hru hqo hqf;have K7:=gi (KU.o.trans (hk7.mono (by simp)));have W7:=gi (WU.o.trans hk7);have HS7:=gi (HSU.o.keep hk7);obtain ⟨op8,sa8,sc8,set8,ka8,kc8,kids8,mn8,mx8,mode8,n8,neg8⟩:=q8;simp only [patVal,MRe.row,List.cons_append,List.nil_append];clear hk7 f0 f1 f2 f3 f4 f5 f6 f7 e0 e1 e2 e3 e4 e5 e6 e7 e8 e9 HPW HSU;go_upto_region 17 with fail
      obtain ⟨Y,hYe⟩:∃ Y,Y=w7.alloc (.cells #[H J op8,M sa8 set8.length sc8,M ka8 kids8.length kc8,H J mn8,H J mx8,H J mode8,H J n8,F neg8,H J cp8,F ru8] 28):=⟨_,rfl⟩;have hkY:Keeps [] w7 Y:=by rw [hYe];exact Keeps.a1 _ _
      rw [←hYe];have KY:=gi (K7.o.trans (hkY.mono (by simp)));have WY:=gi (W7.o.trans hkY);have HSY:=gi (HS7.o.keep hkY);clear hYe hkY HS7 K7
      cases P with
      | none=>
       simp only [Option.isSome_none];have HN2:=gi (show rows.map SRow.s=((pathsT T).take k).flatMap (fun p=> stepsAt T cp ru p 17) ++ stepsAt T cp ru path (r + 1) by rw [HNY.o,HRW.o];simp);go_wp2;go_roundw
       case rel=> exact ⟨r + 1,a,c,rows,by omega,by go_num,rfl,HSY.o,WY.o,KY.o,HNA.o,HN2.o,by have:=HRC.o;omega⟩
       case measure=> simp [intOf];omega
      | some z=>
       simp only [Option.isSome_some];have HCL:=gi (intClone_any pa pc path Y (HRI.o.keepS WY.o (fun _ _=> by simp)) (fun h=> by have:=HRI.o;rw [h] at this;exact this.nil_of) HLE.o.1);have HSLT:=gi (show ∀ y,a=some y→y < Y.heap.size from fun y hy=> by have:=HSY.o.1.sl;subst hy;exact this.lt);have hrc:=HRC.o;have hpl2:=HPL.o;go_wp2_with fail
       refine Calls.mono HCL.o ?_;rintro e w8 ⟨rr,rfl,hrp,hri8,hrl8,hk8,hrf⟩;have K8:=gi (KY.o.trans (hk8.mono (by simp)));have W8:=gi (WY.o.trans hk8);have HS8:=gi (HSY.o.keep hk8);have HRP:=gi (And.intro hrp (And.intro hri8 hrf));obtain ⟨pa8,pc8,path8⟩:=rr;simp only [PRow.v];clear hrp hri8 hrl8 hk8 hrf HSY HCL
       go_wp2_with (at_builtin;refine wpList_append_sl rfl (.tmp 64) (.tmp 69) 48 rfl 61 i0 _ 2 32 Tryz.underlying48 Hi.o Hz0.o Hz1.o Hz2.o rfl (by decide) a rows.length c _ rfl (HS8.o.1.sl.alloc _) ⟨w8.heap.size,0,none⟩ 1 1 [H J r,M pa8 path8.length pc8] rfl rfl (news_row' _ _ _ _ rfl) ?hone (by decide) (by omega) (by omega) ?hk)
       case hone=> exact ⟨rfl,rfl⟩
       case hk=>
        intro g3 c3 w9 hs9 hk9 hg9;have hps:=(HS8.o.keep (Keeps.a1 w8 (.cells #[H J r,M pa8 path8.length pc8] 61))).push (r:=⟨r,pa8,path8,pc8⟩) (by have:=W8.o.size;simp;omega) hk9 (by simpa using hg9) hs9 (by
         refine ((show IntsIn w8 pa8 path8 from by have h:=HRP.o.2.1;rw [show path8=path from HRP.o.1];exact h).keepS (Keeps.a1 w8 _) (fun _ _=> by simp)).keepS hk9 (fun ad had hm=> ?_);have h1:=(HRP.o.2.2 ad had).1;have h2:a=some ad.block:=by simpa using hm
         have h4:=HSLT.o _ h2
         omega) (fun ad had=> ⟨by have:=(HRP.o.2.2 ad had).2;simp;omega,fun h=> by
         have h1:=(HRP.o.2.2 ad had).1;have h4:=HSLT.o _ h.symm
         omega⟩)
        have HPS:=gi hps;have HK9:=gi (show Keeps [] w4 w9 from (W8.o.trans (Keeps.a1 w8 _)).after hk9 (fun x hx=> .inr (HS8.o.2.1 x (by simpa using hx))));have HL9:=gi (show Keeps (List.range wo.heap.size) V w9 from (K8.o.trans ((Keeps.a1 w8 _).mono (by simp))).after hk9 (fun x hx=> by rcases HNA.o x (by simpa using hx) with h | h;exact .inl (List.mem_range.2 h);exact .inr h));have HNB:=gi (show ∀ y,some g3=some y→y < wo.heap.size∨V.heap.size≤y from fun y hy=> by
         cases hy
         rcases hg9 with h | h
         ·exact HNA.o g3 h
         ·right;have:=K8.o.size;omega)
        have HN2:=gi (show (rows ++ [(⟨r,pa8,path8,pc8⟩:SRow)]).map SRow.s=((pathsT T).take k).flatMap (fun p=> stepsAt T cp ru p 17) ++ stepsAt T cp ru path (r + 1) by rw [SRow.map_s,HNY.o,HRW.o,show path8=path from HRP.o.1];simp);clear hs9 hk9 hg9 hps;go_wp2;go_roundw
        case rel=> exact ⟨r + 1,some g3,c3,_,by omega,by go_num,by rw [List.length_append];rfl,HPS.o,HK9.o,HL9.o,HNB.o,HN2.o,by simp;omega⟩
        case measure=> simp [intOf];omega
    ·obtain rfl:r=17:=by omega
     have HN2:=gi (show rows.map SRow.s=((pathsT T).take (k + 1)).flatMap (fun p=> stepsAt T cp ru p 17) by rw [HTK.o,HRW.o]);have hpl2:=HPL.o;go_wp2;go_roundw
     case rel=> exact ⟨k + 1,a,c,rows,by omega,by go_num,rfl,HST.o,KW.o,HN2.o,by have:=HRC.o;omega⟩
     case measure=> simp [intOf];omega
  ·obtain rfl:k=prow.length:=by omega
   have hrr:rows.map SRow.s=stepsR T cp ru:=by rw [HRN.o,stepsR,show prow.length=(pathsT T).length by rw [←HPN.o,List.length_map],List.take_length]
   have HRR:=gi hrr;clear hrr;go_wp2
   go_ret2
   exact ⟨a,c,rows,rfl,HST.o.1,(HKX.o.trans K4.o).trans KR.o,by simpa using HRR.o⟩
end Go.Proofs.YtjnlkjlbejelgaaGreat
