/- Part 25 of the proof. No condition: every lemma says its own. -/
import Derived.Maps.Own
import Derived.Maps.Views
import Derived.Test.YtjnlkjlbejelgaaGreatLax
namespace Go.Proofs.YtjnlkjlbejelgaaGreat
open Go.RowKit
open Go.Value renaming int→H,slice→M,bool→F
open Go.IntKind renaming i64→J
open Go.Maps (Keyed)
set_option maxRecDepth 100000
set_option maxHeartbeats 16000000
mutual
def capsT:Tree→List Int
 | .node op _ kids _ _ _ n _=> (if op=5 then [n] else []) ++ capsTs kids
def capsTs:List Tree→List Int
 | []=> []
 | k::ks=> capsT k ++ capsTs ks
end
theorem capsTs_mem {x:Int} {l:List Tree}:x∈capsTs l↔∃ t∈l,x∈capsT t:=by
 induction l with
 | nil=> simp [capsTs]
 | cons y r ih=> simp [capsTs,ih]
theorem capsTs_take {l:List Tree} {k:Nat} (h:k < l.length):capsTs (l.take (k + 1))=capsTs (l.take k) ++ capsT l[k]:=by
 induction l generalizing k with
 | nil=> simp at h
 | cons x r ih=>
  cases k with
  | zero=> simp [capsTs]
  | succ n=>
   have:=ih (k:=n) (by simpa using h)
   simp only [List.take_succ_cons,capsTs,this,List.getElem_cons_succ,List.append_assoc]
theorem keyInt:Keyed Tryz.prog 3:=Maps.int_keyed Tryz.underlying3
theorem zeroBool (w:World):(zeroValue 4).run Tryz.prog w=.ok (F false) w:=by kernel_rfl
theorem plainElem_bool_inv {P:Program} {e:TypeId} (he:P.underlying e=some .bool) {v:Value} {z:DataW Unit × List MemPlace} (h:plainElem P e v=some z):∃ x,v=F x∧z=(.lit (Lit.bool x),[]):=by
 unfold plainElem at h;rw [he] at h
 cases v <;> simp at h
 exact ⟨_,rfl,h.symm⟩
def SetAt (w:World) (M':Nat) (l:List Int):Prop:=
 ∃ D:DataW Unit,Maps.IsMap D∧w.ownsMap Tryz.prog 3 (plainElem Tryz.prog 4) M' l.length D∧∀ x,(Lit.int .i64 x).wf=true→D.atKey (Lit.int .i64 x) (.lit (Lit.bool false))=.lit (Lit.bool (decide (x∈l)))
theorem SetAt.keep {S:List Nat} {w w':World} {M':Nat} {l:List Int} (h:SetAt w M' l) (k:Keeps S w w') (hM:M' ∉ S):SetAt w' M' l:=by
 obtain ⟨D,h1,⟨es,clock,hb,F'⟩,h3⟩:=h;exact ⟨D,h1,⟨es,clock,k.heap hb hM,F'⟩,h3⟩
theorem SetAt.made (w:World):SetAt (w.alloc (.map #[] 0)) w.heap.size []:=
 ⟨.map [],⟨[],rfl⟩,World.ownsMap_made _ _ _ _,fun x _=> by simp [DataW.atKey]⟩
theorem SetAt.lookup {w:World} {M':Nat} {l:List Int} (h:SetAt w M' l) {x:Int} (hx:(Lit.int .i64 x).wf=true):(Instr.lookup 96 (.map (some M')) (H J x) false).run Tryz.prog w=.ok (F (decide (x∈l))) w:=by
 obtain ⟨D,h1,h2,h3⟩:=h;obtain ⟨v,ps,hr,hv⟩:=h2.lookup keyInt Tryz.underlying96 (zeroBool w) (plainElem_bool Tryz.underlying4 false) (Maps.keyOf_int_mk Tryz.underlying3 hx);rw [h3 x hx] at hv;obtain ⟨y,rfl,hy⟩:=plainElem_bool_inv Tryz.underlying4 hv
 cases hy
 exact hr
theorem SetAt.update {w:World} {M':Nat} {l:List Int} (h:SetAt w M' l) {x:Int} (hx:(Lit.int .i64 x).wf=true) (hl:l.length < maxLen):∃ w',(Instr.mapUpdate 96 (.map (some M')) (H J x) (F true)).run Tryz.prog w=.ok () w'∧SetAt w' M' (l ++ [x])∧Keeps [M'] w w':=by
 obtain ⟨D,h1,h2,h3⟩:=h;obtain ⟨w',hr,h4,h5⟩:=h2.update keyInt Tryz.underlying96 hl (Maps.keyOf_int_mk Tryz.underlying3 hx) (plainElem_bool Tryz.underlying4 true);refine ⟨w',hr,⟨_,?_,by rw [List.length_append];exact h4,fun y hy=> ?_⟩,Keeps.of_grown h5⟩
 ·obtain ⟨es,rfl⟩:=h1;exact ⟨_,rfl⟩
 ·by_cases hyx:y=x
  ·subst hyx;rw [Maps.atKey_put_same h1 (by trivial)]
   simp
  ·rw [Maps.atKey_put_other (fun h=> hyx (by cases h;rfl)),h3 y hy];simp [hyx]
def NumW (NV M':Nat) (a:Option Nat) (l L:List Int) (s:Nat) (w w':World):Prop:=
 ∃ (a':Option Nat) (c':Nat) (l':List Int),Keeps (NV::M'::a.toList) w w'∧w'.heap[NV]? =some (.cells #[sv a' l'.length c'] 22 (0,0))∧SliceAt w' 3 1 a' l'.length c' (l'.map (H J))∧SetAt w' M' l'∧
  (∀ x,x∈l'↔x∈l∨x∈L)∧l'.length≤l.length + s∧(a'=a∨∃ g,a'=some g∧w.heap.size≤g)
structure NumS (n0 NV M' P1 C b:Nat) (bl:List Nat):Prop where
 hN:NV < n0
 hM:M' < n0∧M'≠NV
 hP:P1 < n0∧P1≠NV∧P1≠M'
 hC:C < n0∧C≠NV∧C≠M'
 hb:b < n0∧b≠NV∧b≠M'
 hm:∀ x∈bl,x < n0∧x≠NV∧x≠M'
theorem num_out {n0 NV M' x:Nat} {a:Option Nat} (ha:∀ g,a=some g→n0≤g) (h:x < n0∧x≠NV∧x≠M'):x ∉ NV::M'::a.toList:=fun hm=> by
 simp only [List.mem_cons,Option.mem_toList] at hm
 rcases hm with h1 | h1 | h1
 ·exact h.2.1 h1
 ·exact h.2.2 h1
 ·have:=ha x h1;omega
theorem NumW.same {NV M':Nat} {a:Option Nat} {c:Nat} {l:List Int} {w w':World} (k:Keeps [] w w') (hn:w.heap[NV]? =some (.cells #[sv a l.length c] 22 (0,0))) (hs:SliceAt w 3 1 a l.length c (l.map (H J))) (hm:SetAt w M' l) (L:List Int) (hL:∀ x∈L,x∈l) (s:Nat):NumW NV M' a l L s w w':=
 ⟨a,c,l,k.mono (by simp),k.h hn,hs.keep k (by simp),hm.keep k (by simp),fun x=> ⟨.inl,fun h=> h.elim id (hL x)⟩,by omega,.inl rfl⟩
theorem NumW.push {n0 NV M' g:Nat} {a:Option Nat} {c c1:Nat} {l:List Int} {x:Int} {w w2 w3 w4:World} (hN:NV < n0) (hM:M' < n0∧M'≠NV) (hn0:n0≤w.heap.size) (ha:∀ g,a=some g→n0≤g) (hnv:w.heap[NV]? =some (.cells #[sv a l.length c] 22 (0,0)))
  (k2:Keeps [M'] w w2) (hm:SetAt w2 M' (l ++ [x])) (k3:Keeps [] w2 w3) (k4:Keeps a.toList w3 w4) (hs:SliceAt w4 3 1 (some g) (l.length + 1) c1 (l.map (H J) ++ [H J x])) (hg:a=some g∨w3.heap.size≤g):
  (w4.cell? ⟨NV,0,none⟩=some (sv a l.length c)∧w4.frozen? ⟨NV,0,none⟩=false)∧NumW NV M' a l [x] 1 w (w4.setCell ⟨NV,0,none⟩ (sv (some g) (l.length + 1) c1)):=by
 have h2:=k2.size;have h3:=k3.size;have hNa:NV ∉ a.toList:=fun h=> by have:=ha NV (by simpa using h);omega
 have hMa:M' ∉ a.toList:=fun h=> by have:=ha M' (by simpa using h);omega
 have hn4:=k4.heap (k3.heap (k2.heap hnv (by simp;exact Ne.symm hM.2)) (by simp)) hNa;have kS:Keeps [NV] w4 (w4.setCell ⟨NV,0,none⟩ (sv (some g) (l.length + 1) c1)):=(Keeps.refl [NV] w4).setCell (p:=⟨NV,0,none⟩) (.inl (by simp)) _;have hgn:n0≤g:=by
  rcases hg with h | h
  ·exact ha g h
  ·omega
 refine ⟨⟨by simp [World.cell?,hn4],by simp [World.frozen?,hn4]⟩,some g,c1,l ++ [x],?_,?_,?_,?_,fun y=> by simp,by simp,?_⟩
 ·refine (((k2.mono (S':=NV::M'::a.toList) (by simp)).after k3 (by simp)).after k4 (fun y hy=> .inl (by simp at hy ⊢;exact .inr (.inr hy)))).after kS (by simp)
 ·rw [List.length_append];exact heap_setCell_same _ NV 0 _ _ _ hn4
 ·rw [List.length_append,List.map_append];exact hs.keep kS (fun y hy=> by cases hy;simp;omega)
 ·exact ((hm.keep k3 (by simp)).keep k4 hMa).keep kS (by simp;exact hM.2)
 ·rcases hg with h | h
  ·exact .inl h.symm
  ·exact .inr ⟨g,rfl,by omega⟩
theorem NumW.trans {NV M':Nat} {a a':Option Nat} {l l' L L':List Int} {s s':Nat} {w w1 w2:World} (k:Keeps (NV::M'::a.toList) w w1) (hl:∀ x,x∈l'↔x∈l∨x∈L) (hs:l'.length≤l.length + s) (ha:a'=a∨∃ g,a'=some g∧w.heap.size≤g) (h:NumW NV M' a' l' L' s' w1 w2):NumW NV M' a l (L ++ L') (s + s') w w2:=by
 obtain ⟨b,c,m,k2,hn,hsl,hm,hx,hs2,hb⟩:=h;have hsz:=k.size;refine ⟨b,c,m,k.after k2 ?_,hn,hsl,hm,fun x=> by rw [hx,hl];simp [or_assoc],by omega,?_⟩
 ·intro y hy;simp only [List.mem_cons,Option.mem_toList] at hy ⊢
  rcases hy with h | h | h
  ·exact .inl (.inl h)
  ·exact .inl (.inr (.inl h))
  ·rcases ha with h1 | ⟨g,h1,h2⟩
   ·exact .inl (.inr (.inr (h1 ▸ h)))
   ·rw [h] at h1;cases h1;exact .inr h2
 ·rcases hb with h | ⟨g,h,h2⟩
  ·rw [h];exact ha
  ·exact .inr ⟨g,h,by omega⟩
theorem nums1_any (m:MRe):∀ (n0 NV M' P1 C b o:Nat) (a:Option Nat) (c:Nat) (l:List Int) (w:World),NumS n0 NV M' P1 C b m.blocks→n0≤w.heap.size→(∀ g,a=some g→n0≤g)→At8 w b o m→m.OK w→w.cell? ⟨C,0,none⟩=some (.func (Fn.func 72) #[] #[.pointer (some ⟨P1,0,none⟩),.pointer (some ⟨NV,0,none⟩),.pointer (some ⟨C,0,none⟩)])→
  w.cell? ⟨P1,0,none⟩=some (.map (some M'))→w.heap[NV]? =some (.cells #[sv a l.length c] 22 (0,0))→SliceAt w 3 1 a l.length c (l.map (H J))→SetAt w M' l→l.length + sizeT m.tree≤1000000→(∀ x∈capsT m.tree,0≤x∧x≤9)→
  Calls Tryz.prog 72 #[.pointer (some ⟨b,o,none⟩),.pointer (some ⟨P1,0,none⟩),.pointer (some ⟨NV,0,none⟩),.pointer (some ⟨C,0,none⟩)] w fun e w'=> e=.returned (.tuple #[])∧NumW NV M' a l (capsT m.tree) (sizeT m.tree) w w':=by
 obtain ⟨i0,hi0,hz0,hz1,hz2⟩:=info_parts infoInt;have Hi:=gi hi0;have Hz0:=gi hz0;have Hz1:=gi hz1;have Hz2:=gi hz2;clear hi0 hz0 hz1 hz2
 induction m using MRe.induct with
 | h op sa sc set ka kc kids mn mx mode n neg ih=>
  intro n0 NV M' P1 C b o a c l w hS hn0 ha h1 k1 hc hp hnv hsl hset hsz hcp;have a0:=h1.node.c0;have a2:=h1.node.c2;have a6:=h1.node.c6;have hcap:=k1.nodes.cap;have hle:=k1.nodes.le;unfold maxLen at hcap;obtain ⟨R,hR⟩:∃ R,R=capsT (MRe.tree (.node op sa sc set ka kc kids mn mx mode n neg)):=⟨_,rfl⟩;obtain ⟨Z,hZ⟩:∃ Z,Z=sizeT (MRe.tree (.node op sa sc set ka kc kids mn mx mode n neg)):=⟨_,rfl⟩;have HR:=gi (show R=(if op=5 then [n] else []) ++ capsTs (MRe.trees kids) by rw [hR];simp only [MRe.tree,capsT]);have HZ:=gi (show Z=1 + sizeTs (MRe.trees kids) by rw [hZ];simp only [MRe.tree,sizeT]);rw [←hR] at hcp ⊢;rw [←hZ] at hsz ⊢;have HWF:=gi (show op=5→(Lit.int .i64 n).wf=true from fun h=> WalkArith.wf_i64 (by have:=hcp n (by rw [HR.o,if_pos h];simp);omega));have HCP:=gi hcp;have HS:=gi hS;have HSZ:=gi hsz;have HA:=gi ha;have HN0:=gi hn0;have HK1:=gi k1.kids;have HKB:=gi (show ∀ x∈blockIf kids.length ka ++ MRe.blocksL kids,x < n0∧x≠NV∧x≠M' from fun x hx=> hS.hm x (by simp only [MRe.blocks,List.mem_append] at hx ⊢;exact .inr hx));have HI:=gi ih;have HNV:=gi hnv;have HSL:=gi hsl;have HST:=gi hset;have HCC:=gi hc;have HA2:=gi a2;have HPP:=gi hp;clear ih h1 k1 hR hZ hcp hsz hS ha hnv hsl hn0 hc;go_enter Tryz.func72,Tryz.ntmps72
  go_upto_region 0 with fail
  go_cut [19] (fun s19 wx=> ∃ V,V=wx∧Keeps [] w V∧s19=F (decide (op=5) && !decide (n∈l)))
  case first=>
   by_cases h5:op=5
   ·subst h5;have hwf:=HWF.o rfl;refine wp_region_held_drew (S:=fun w'=> w'.cell? ⟨b,o,none⟩=some (H J 5)∧w'.cell? ⟨b,o + 6,none⟩=some (H J n)∧w'.cell? ⟨P1,0,none⟩=some (.map (some M'))∧SetAt w' M' l) (by kernel_rfl) ⟨a0,a6,hp,HST.o.keep (Keeps.refl [] w).drew (by simp)⟩ (fun hHeld=> ?_);refine tk 0 ?_;refine tk 1 ?_;refine tk 2 ?_;refine tk 3 ?_;refine tk 4 ?_;refine tk 5 ?_;refine tk 6 ?_;refine tk 7 ?_;refine tk 8 ?_;refine tk 9 ?_;refine tk 10 ?_;refine (take_on (i:=11) (v:=F (decide (n∈l))) rfl (by kernel_rfl) (by kernel_rfl) (by kernel_rfl) (fun _ _ _ h=> h) (by rfl) (by assumption) ?_ ?_)
    ·intro w' hSw;have hl:=hSw.2.2.2.lookup hwf;clear hSw
     go_simp <;> with_reducible rfl
    try go_frame
    refine tk 12 ?_;refine tk 13 ?_;refine wd ?_;go_wp2;go_meet;exact ⟨_,rfl,(Keeps.refl [] w).drew,by simp⟩
   ·have h5b:(op==5)=false:=by simpa using h5
    refine rg (S:=fun w'=> w'.cell? ⟨b,o,none⟩=some (H J op)) (fun _ k=> k.c a0) fun kz hHeld=> ?_;refine tk 0 ?_;refine tk 1 ?_;refine tk 2 ?_;refine tk 3 ?_;refine tk 4 ?_;refine tk 5 ?_;refine tf 6 ?_;refine tf 7 ?_;refine tf 8 ?_;refine tf 9 ?_;refine tf 10 ?_;refine tf 11 ?_;refine tf 12 ?_;refine tk 13 ?_;refine wd ?_;go_wp2;go_meet;exact ⟨_,rfl,(Keeps.refl [] w).drew,by simp [h5]⟩
  case rest=>
   obtain ⟨V,rfl,hkV,rfl⟩:=hcut;have HKV:=gi hkV;obtain ⟨t,ht⟩:∃ t,t=(decide (op=5) && !decide (n∈l)):=⟨_,rfl⟩;rw [←ht];have HT:=gi ht;clear hset hkV ht
   go_upto_if 19 with fail
   go_cut [] (fun wx=> ∃ W,W=wx∧NumW NV M' a l (if op=5 then [n] else []) 1 w W)
   case first=>
    cases t with
    | false=>
     have hmem:∀ x∈(if op=5 then [n] else []),x∈l:=fun x hx=> by
      have h:=HT.o
      by_cases h5:op=5
      ·rw [if_pos h5] at hx;simp at hx;subst hx
       simpa [h5] using h
      ·rw [if_neg h5] at hx;simp at hx
     have HMM:=gi hmem;clear hmem;go_wp2;go_meet;exact ⟨_,rfl,NumW.same HKV.o HNV.o HSL.o HST.o _ HMM.o 1⟩
    | true=>
     have h:=HT.o;have h5:op=5:=by simp at h;exact h.1
     subst h5;have hwf:=HWF.o rfl;have hll:l.length≤1000000:=by have:=HSZ.o;omega
     obtain ⟨w2,hr2,hs2,hk2⟩:=(HST.o.keep HKV.o.drew (by simp)).update hwf (by unfold maxLen;omega);have K2:=gi (show Keeps [M'] w w2 from (HKV.o.drew.mono (by simp)).trans hk2);have S2:=gi hs2;have x6:=hk2.cell (HKV.o.c a6) (by simp;exact HS.o.hb.2.2);have xp:=hk2.cell (HKV.o.c hp) (by simp;exact HS.o.hP.2.2);have x6':=HKV.o.c a6;have xp':=HKV.o.c hp;clear h hs2 hk2;go_wp2;refine rg (S:=fun w'=> w'.cell? ⟨b,o + 6,none⟩=some (H J n)∧w'.cell? ⟨P1,0,none⟩=some (.map (some M'))) (fun _ k=> ⟨k.c x6',k.c xp'⟩) fun kz hHeld=> ?_;refine tk 0 ?_;refine tk 1 ?_;refine tk 2 ?_;refine tk 3 ?_;refine tk 4 ?_;refine j6 5 fun K hK=> ?_;go_simp;refine hK.out _ _ (⟨x6,xp⟩) (fun hHeld=> ?_);clear hK K;try go_frame
     refine wd ?_;clear hr2 x6' xp' a0 a2 a6;have hn2:=K2.o.heap HNV.o (by simp;exact Ne.symm HS.o.hM.2);have n2:w2.cell? ⟨NV,0,none⟩=some (sv a l.length c):=by simp [World.cell?,hn2]
     simp only [sv] at n2;clear hn2;have K3:=gi (((Keeps.refl [] w2).drew).trans (Keeps.a1 w2.drew (.cells #[H J n] 3)));have n3:=(Keeps.a1 w2 (.cells #[H J n] 3)).c n2;have HAM:=gi (show ∀ g,a=some g→g ∉ [M'] from fun g hg=> by have:=HA.o g hg;have:=HS.o.hM.1;simp;omega);have KW3:=gi (K2.o.trans (K3.o.mono (S':=[M']) (by simp)));go_wp2;refine rg (S:=fun w'=> w'.cell? ⟨b,o + 6,none⟩=some (H J n)) (fun _ k=> k.c x6) fun kz hHeld=> ?_;refine tk 1 ?_;refine tk 2 ?_;refine tk 3 ?_;refine tk 4 ?_;refine j7 0 5 (fun K hK=> ?_) fun K hK=> ?_
     ·go_simp;refine hK.out _ _ (x6) (fun hHeld=> ?_);clear hK K;try go_frame
      refine j6 5 fun K hK=> ?_;go_simp;refine hK.out _ _ (kz.o _ K3.o) fun hHeld=> ?_;clear hK K;try go_frame
      refine j6 6 fun K hK=> ?_;refine oper_append_old (.tmp 25) (.tmp 30) 22 rfl 3 i0 _ 1 8 Tryz.underlying22 Hi.o Hz0.o Hz1.o Hz2.o rfl (by decide) a l.length c _ rfl (HSL.o.keep KW3.o HAM.o) ⟨w2.drew.heap.size,0,none⟩ 1 1 [H J n] rfl rfl (news_row w2.drew [H J n] 3) (by intro u hu;simp at hu;subst hu;rfl) (by decide) (by omega) (by omega) ?_;intro g c1 w4 hs4 _ hk4 hg4;obtain ⟨⟨p4,f4⟩,hfi⟩:=NumW.push HS.o.hN HS.o.hM HN0.o HA.o HNV.o K2.o S2.o K3.o hk4 hs4 hg4;have HFI:=gi hfi;have y6:=hk4.cell (K3.o.c x6) (fun hm=> num_out HA.o HS.o.hb (List.mem_cons_of_mem _ (List.mem_cons_of_mem _ hm)));simp only [sv] at p4;clear hs4 hk4 hg4 hfi;refine hK.out _ _ (y6) (fun hHeld=> ?_);clear hK K;try go_frame
      refine j6 7 fun K hK=> ?_;go_simp;have y7:(w4.setCell ⟨NV,0,none⟩ (M (some ⟨g,0,none⟩) (l.length + 1) c1)).cell? ⟨b,o + 6,none⟩=some (H J n):=((Keeps.refl [NV] w4).setCell (p:=⟨NV,0,none⟩) (.inl (by simp)) _).cell y6 (by simp;exact HS.o.hb.2.1);refine hK.out _ _ (y7) (fun hHeld=> ?_);clear hK K;try go_frame
      refine wd ?_;go_wp2;go_meet;exact ⟨_,rfl,HFI.o⟩
     ·go_simp;refine hK.out _ _ (kz.o _ K3.o) fun hHeld=> ?_;clear hK K;try go_frame
      refine j6 0 fun K hK=> ?_;go_simp;refine hK.out _ _ (kz.o _ K3.o) fun hHeld=> ?_;clear hK K;try go_frame
      refine j6 6 fun K hK=> ?_;refine oper_append_old (.tmp 25) (.tmp 30) 22 rfl 3 i0 _ 1 8 Tryz.underlying22 Hi.o Hz0.o Hz1.o Hz2.o rfl (by decide) a l.length c _ rfl (HSL.o.keep KW3.o HAM.o) ⟨w2.drew.heap.size,0,none⟩ 1 1 [H J n] rfl rfl (news_row w2.drew [H J n] 3) (by intro u hu;simp at hu;subst hu;rfl) (by decide) (by omega) (by omega) ?_;intro g c1 w4 hs4 _ hk4 hg4;obtain ⟨⟨p4,f4⟩,hfi⟩:=NumW.push HS.o.hN HS.o.hM HN0.o HA.o HNV.o K2.o S2.o K3.o hk4 hs4 hg4;have HFI:=gi hfi;have y6:=hk4.cell (K3.o.c x6) (fun hm=> num_out HA.o HS.o.hb (List.mem_cons_of_mem _ (List.mem_cons_of_mem _ hm)));simp only [sv] at p4;clear hs4 hk4 hg4 hfi;refine hK.out _ _ (y6) (fun hHeld=> ?_);clear hK K;try go_frame
      refine j6 7 fun K hK=> ?_;go_simp;have y7:(w4.setCell ⟨NV,0,none⟩ (M (some ⟨g,0,none⟩) (l.length + 1) c1)).cell? ⟨b,o + 6,none⟩=some (H J n):=((Keeps.refl [NV] w4).setCell (p:=⟨NV,0,none⟩) (.inl (by simp)) _).cell y6 (by simp;exact HS.o.hb.2.1);refine hK.out _ _ (y7) (fun hHeld=> ?_);clear hK K;try go_frame
      refine wd ?_;go_wp2;go_meet;exact ⟨_,rfl,HFI.o⟩
   case rest=>
    obtain ⟨X,rfl,hX⟩:=hcut;have HX:=gi hX;obtain ⟨_,_,_,kX,_⟩:=hX;have a2X:=kX.cell HA2.o (num_out HA.o HS.o.hb);clear kX a0 a2 a6 hp;go_wp2
    go_loopw [37] (fun i wr=> ∃ k:Nat,k≤kids.length∧i=H J k∧NumW NV M' a l ((if op=5 then [n] else []) ++ capsTs ((MRe.trees kids).take k)) (1 + sizeTs ((MRe.trees kids).take k)) w wr) (fun i _=> kids.length - (intOf i).toNat)
    case atStart=> exact ⟨0,Nat.zero_le _,rfl,by simpa [capsTs,sizeTs] using HX.o⟩
    case round=>
     obtain ⟨k,hk,rfl,hwp⟩:=hrel;have HWP:=gi hwp;clear hwp
     by_cases hlt:k < kids.length
     ·obtain ⟨aa,cc,ll,hkw,hnw,hsw,hmw,hxw,hlw,haw⟩:=HWP.o;have hkin:=HK1.o.keepS hkw (fun q hq=> num_out HA.o (HKB.o q hq));obtain ⟨b',off,rfl,hb,hx⟩:=hkin.nodes.kid (by omega);have x1:=hkw.cell HCC.o (num_out HA.o HS.o.hC);have x2:=hkw.cell HA2.o (num_out HA.o HS.o.hb);have x3:=hkw.cell HPP.o (num_out HA.o HS.o.hP);have hc1:=hkin.all kids[k] (List.getElem_mem hlt);have hblk:∀ y∈blockIf kids.length (some ⟨b',off,none⟩) ++ MRe.blocksL kids,y < n0∧y≠NV∧y≠M':=HKB.o;have hS':NumS n0 NV M' P1 C b' kids[k].blocks:=⟨HS.o.hN,HS.o.hM,HS.o.hP,HS.o.hC,hblk b' (List.mem_append_left _ (by unfold blockIf;rw [if_neg (by omega)];simp)),fun y hy=> hblk y (List.mem_append_right _ (MRe.mem_blocksL (List.getElem_mem hlt) hy))⟩;have hlt':k < (MRe.trees kids).length:=by rw [MRe.trees_length];exact hlt
      have hn:=capsTs_take hlt';rw [trees_getElem kids k hlt] at hn;have hst:=sizeTs_take hlt';have hsl':=sizeTs_le (MRe.trees kids) (k + 1);rw [trees_getElem kids k hlt] at hst;have hbm:kids[k].tree∈MRe.trees kids:=by rw [MRe.trees_eq];exact List.mem_map_of_mem (List.getElem_mem hlt)
      have haa:∀ g,aa=some g→n0≤g:=fun g hg=> by
       rcases haw with h | ⟨y,h,hy⟩
       ·exact HA.o g (h ▸ hg)
       ·rw [hg] at h;cases h;have:=HN0.o;omega
      have HCALL:=gi (fun (W:World) (h:Keeps [] wr W)=> HI.o kids[k] (List.getElem_mem hlt) n0 NV M' P1 C b' (off + k * 8) aa cc ll W hS' (by have:=HN0.o;have:=hkw.size;have:=h.size;omega) haa ((hx k hlt).keep h) (hc1.keep h) (h.c x1) (h.c x3) (h.h hnw) (hsw.keep h (by simp)) (hmw.keep h (by simp)) (by have:=HSZ.o;have:=HZ.o;omega) (fun x hx=> HCP.o x (by rw [HR.o];exact List.mem_append_right _ (capsTs_mem.2 ⟨_,hbm,hx⟩))));have HKW:=gi hkw;have HXW:=gi hxw;have HLW:=gi hlw;have HAW:=gi haw;have HN:=gi hn;have HSTT:=gi hst;clear hkw hnw hsw hmw hxw hlw haw hkin hb hx hc1 hblk hS' hlt' hn hst hsl' hbm haa a2X x3;go_wp2;have K0:=gi ((Keeps.refl [] wr).drew);refine rg (S:=fun w'=> w'.cell? ⟨C,0,none⟩=some (.func (Fn.func 72) #[] #[.pointer (some ⟨P1,0,none⟩),.pointer (some ⟨NV,0,none⟩),.pointer (some ⟨C,0,none⟩)])∧w'.cell? ⟨b,o + 2,none⟩=some (M (some ⟨b',off,none⟩) kids.length kc)) (fun _ k=> ⟨k.c x1,k.c x2⟩) fun kz hHeld=> ?_;refine tk 0 ?_;refine tk 1 ?_;refine tk 2 ?_;refine tk 3 ?_;refine tk 4 ?_;refine tk 5 ?_;refine tk 6 ?_;refine j6 7 fun K hK=> ?_;go_simp
      go_at_call 72
      refine Calls.mono (HCALL.o _ K0.o) ?_;rintro ee w5 ⟨rfl,h5⟩;have HLV:=gi (NumW.trans HKW.o.drew HXW.o HLW.o HAW.o h5);have z1:w5.cell? ⟨C,0,none⟩=some (.func (Fn.func 72) #[] #[.pointer (some ⟨P1,0,none⟩),.pointer (some ⟨NV,0,none⟩),.pointer (some ⟨C,0,none⟩)]):=by
       obtain ⟨_,_,_,k5,_⟩:=HLV.o;exact k5.cell HCC.o (num_out HA.o HS.o.hC)
      have z2:w5.cell? ⟨b,o + 2,none⟩=some (M (some ⟨b',off,none⟩) kids.length kc):=by
       obtain ⟨_,_,_,k5,_⟩:=HLV.o;exact k5.cell HA2.o (num_out HA.o HS.o.hb)
      clear h5 HCALL;refine hK.out _ _ (⟨z1,z2⟩) (fun hHeld=> ?_);clear hK K;try go_frame
      refine wd ?_;go_wp2;go_roundw
      case rel=> exact ⟨k + 1,by omega,by go_num,by rw [HN.o,←List.append_assoc,HSTT.o,←Nat.add_assoc];exact HLV.o⟩
      case measure=> simp [intOf];omega
     ·obtain rfl:k=kids.length:=by omega
      have htk:(MRe.trees kids).take kids.length=MRe.trees kids:=by rw [←MRe.trees_length kids,List.take_length]
      rw [htk,←HR.o,←HZ.o] at HWP;clear htk;go_wp2
      go_end0
      exact ⟨rfl,HWP.o⟩
def NumsPost (w:World) (t:Tree) (e:Ending) (w':World):Prop:=
 ∃ (a:Option Nat) (c:Nat) (l:List Int),e=.returned (sv a l.length c)∧IntsIn w' (a.map fun g=> ⟨g,0,none⟩) l∧Keeps [] w w'∧(∀ x,x∈l↔x∈capsT t)∧l.length≤1000000
theorem anums_any (m:MRe) (w:World) (k1:m.OK w) (hbz:m.tree.bulk≤1000000) (hcp:∀ x∈capsT m.tree,0≤x∧x≤9):
  Calls Tryz.prog 36 #[m.val] w (NumsPost w m.tree):=by
 obtain ⟨B,hB⟩:∃ B,B=w.heap.size:=⟨_,rfl⟩;have hlt:=k1.block_lt;have hsz:=(size_depth m.tree).1;have HW:=gi (fun (W:World) (hs:W.heap.size=B + 5) (h1:At8 W B 0 m) (h2:m.OK W) (h3:W.cell? ⟨B + 1 + 1 + 1 + 1,0,none⟩=some (.func (Fn.func 72) #[] #[.pointer (some ⟨B + 1 + 1 + 1,0,none⟩),.pointer (some ⟨B + 1,0,none⟩),.pointer (some ⟨B + 1 + 1 + 1 + 1,0,none⟩)])) (h4:W.cell? ⟨B + 1 + 1 + 1,0,none⟩=some (.map (some (B + 1 + 1)))) (h5:W.heap[B + 1]? =some (.cells #[M none 0 0] 22 (0,0))) (h6:SetAt W (B + 1 + 1) [])=>
  nums1_any m (B + 5) (B + 1) (B + 1 + 1) (B + 1 + 1 + 1) (B + 1 + 1 + 1 + 1) B 0 none 0 [] W ⟨by omega,by omega,by omega,by omega,by omega,fun x hx=> by have:=hlt x hx;omega⟩ (by omega) (fun g hg=> by cases hg) h1 h2 h3 h4 h5 (SliceAt.nil _ _ _) h6 (by simp only [List.length_nil];omega) hcp)
 have HSZ:=gi (show sizeT m.tree≤1000000 by omega);have HK1:=gi k1;obtain ⟨r1,hr1⟩:∃ r,r=m:=⟨_,rfl⟩;obtain ⟨op1,sa1,sc1,set1,ka1,kc1,kids1,mn1,mx1,mode1,n1,neg1⟩:=m;simp only [MRe.val];have hmf:∀ (fn:Fn) (first cap:Array Value) (w:World),(Instr.makeFunc fn first cap).run Tryz.prog w=.ok (.func fn first cap) w:=fun _ _ _ _=> rfl;have hmm:=@run_makeMap Tryz.prog;rw [←hr1] at HW HK1 HSZ ⊢;have R1:r1.row=[H J op1,M sa1 set1.length sc1,M ka1 kids1.length kc1,H J mn1,H J mx1,H J mode1,H J n1,F neg1]:=by rw [hr1];rfl
 have HR1:=gi R1;have HB:=gi hB;clear hr1 R1 k1 hlt hB hbz hsz hcp;go_enter Tryz.func36,Tryz.ntmps36
 go_wp2_with fail
 rw [←HB.o];obtain ⟨W1,hW1⟩:∃ W1,W1=w.alloc (.cells #[H J op1,M sa1 set1.length sc1,M ka1 kids1.length kc1,H J mn1,H J mx1,H J mode1,H J n1,F neg1] 26):=⟨_,rfl⟩;obtain ⟨W2,hW2⟩:∃ W2,W2=W1.alloc (.cells #[M none 0 0] 22):=⟨_,rfl⟩;obtain ⟨W3,hW3⟩:∃ W3,W3=W2.alloc (.map #[] 0):=⟨_,rfl⟩;obtain ⟨W4,hW4⟩:∃ W4,W4=W3.alloc (.cells #[.map (some (B + 1 + 1))] 96):=⟨_,rfl⟩;obtain ⟨W5,hW5⟩:∃ W5,W5=W4.alloc (.cells #[.func (Fn.func 72) #[] #[.pointer (some ⟨B + 1 + 1 + 1,0,none⟩),.pointer (some ⟨B + 1,0,none⟩),.pointer (some ⟨B + 1 + 1 + 1 + 1,0,none⟩)]] 93):=⟨_,rfl⟩;rw [←hW1,←hW2,←hW3,←hW4,←hW5];have s1:W1.heap.size=B + 1:=by rw [hW1,HB.o];simp
 have s2:W2.heap.size=B + 1 + 1:=by rw [hW2];simp [s1]
 have s3:W3.heap.size=B + 1 + 1 + 1:=by rw [hW3];simp [s2]
 have s4:W4.heap.size=B + 1 + 1 + 1 + 1:=by rw [hW4];simp [s3]
 have s5:W5.heap.size=B + 5:=by rw [hW5];simp [s4]
 have k1:Keeps [] w W1:=by rw [hW1];exact Keeps.a1 _ _
 have k2:Keeps [] W1 W2:=by rw [hW2];exact Keeps.a1 _ _
 have k3:Keeps [] W2 W3:=by rw [hW3];exact Keeps.a1 _ _
 have k4:Keeps [] W3 W4:=by rw [hW4];exact Keeps.a1 _ _
 have k5:Keeps [] W4 W5:=by rw [hW5];exact Keeps.a1 _ _
 have kA:Keeps [] w W5:=(((k1.trans k2).trans k3).trans k4).trans k5;have f1:At8 W5 B 0 r1:=by
  have h:At8 W1 B 0 r1:=by rw [hW1,HB.o];exact At8.box HR1.o.symm
  exact At8.keep h (((k2.trans k3).trans k4).trans k5)
 have f3:W5.heap[B + 1 + 1 + 1 + 1]? =some (.cells #[.func (Fn.func 72) #[] #[.pointer (some ⟨B + 1 + 1 + 1,0,none⟩),.pointer (some ⟨B + 1,0,none⟩),.pointer (some ⟨B + 1 + 1 + 1 + 1,0,none⟩)]] 93 (0,0)):=by rw [hW5,←s4];exact heap_alloc_new _ _
 have f4:W5.heap[B + 1 + 1 + 1]? =some (.cells #[.map (some (B + 1 + 1))] 96 (0,0)):=k5.heap (by rw [hW4,←s3];exact heap_alloc_new _ _) (by simp);have f5:W5.heap[B + 1]? =some (.cells #[M none 0 0] 22 (0,0)):=((k3.trans k4).trans k5).heap (by rw [hW2,←s1];exact heap_alloc_new _ _) (by simp);have f6:SetAt W5 (B + 1 + 1) []:=SetAt.keep (by rw [hW3,←s2];exact SetAt.made _) (k4.trans k5) (by simp);have hc:=HW.o W5 s5 f1 (HK1.o.keep kA) (by simp [World.cell?,f3]) (by simp [World.cell?,f4]) f5 f6;have KA:=gi kA;have S5:=gi s5;clear hW1 hW2 hW3 hW4 hW5 s1 s2 s3 s4 s5 k1 k2 k3 k4 k5 kA f1 f3 f4 f5 f6;refine Calls.mono hc ?_;rintro e w2 ⟨rfl,a',c',l',hk,hn,hsl,_,hx,hll,ha⟩;have HK:=gi (show Keeps [] w w2 from KA.o.after hk (by intro y hy;simp at hy;have:=HB.o;omega));have HI:=gi hsl.to_in;have HX:=gi hx;have HL:=gi (show l'.length≤1000000 by have:=HSZ.o;simp at hll;omega);have n2:w2.cell? ⟨B + 1,0,none⟩=some (M (a'.map fun g=> ⟨g,0,none⟩) l'.length c'):=by simp [World.cell?,hn,sv]
 clear hk hn hsl hx hll ha hc;go_wp2;go_ret;exact ⟨a',c',l',rfl,HI.o,HK.o,fun y=> by rw [HX.o];simp,HL.o⟩
theorem has_any (la:Option Addr) (c:Nat) (xs:List Int) (x:Int) (w:World) (hi:IntsIn w la xs) (hl:xs.length≤1000000):
  Calls Tryz.prog 37 #[M la xs.length c,H J x] w fun e w'=> e=.returned (F (decide (x∈xs)))∧Keeps [] w w':=by
 obtain ⟨r,hr⟩:∃ r,r=decide (x∈xs):=⟨_,rfl⟩;rw [←hr];have HR:=gi hr;have HX:=gi hi;clear hr hi;go_enter Tryz.func37,Tryz.ntmps37
 go_wp2
 go_loopw [5] (fun i wr=> ∃ k:Nat,k≤xs.length∧i=H J k∧x ∉ xs.take k∧wr=w) (fun i _=> xs.length - (intOf i).toNat)
 case atStart=> exact ⟨0,Nat.zero_le _,rfl,by simp,rfl⟩
 case round=>
  obtain ⟨k,hk,rfl,ht,rfl⟩:=hrel;have HT:=gi ht;clear ht
  by_cases hlt:k < xs.length
  ·obtain ⟨b,off,rfl,hcx⟩:=HX.o (by omega);have dx:=hcx k hlt;obtain ⟨y,hy⟩:∃ y,y=xs.getD k 0:=⟨_,rfl⟩;rw [←hy] at dx;have hyk:y=xs[k]:=by rw [hy];simp [hlt]
   have HY:=gi hyk;clear hcx hy hyk
   by_cases hxy:y=x
   ·have hb:(y==x)=true:=by simp [hxy]
    have hrt:r=true:=by rw [HR.o];simp only [decide_eq_true_eq];rw [←hxy,HY.o];exact List.getElem_mem hlt
    have HRT:=gi hrt;clear hxy hrt;go_wp2;go_ret;exact ⟨by rw [HRT.o];rfl,Keeps.refl _ _⟩
   ·have hb:(y==x)=false:=by simp [hxy]
    have HNT:=gi (show x ∉ xs.take (k + 1) by
     rw [List.take_succ_eq_append_getElem hlt];simp only [List.mem_append,List.mem_singleton,not_or];exact ⟨HT.o,fun h=> hxy (by rw [HY.o,h])⟩)
    clear hxy;go_wp2;go_roundw
    case rel=> exact ⟨k + 1,by omega,by go_num,HNT.o,trivial⟩
    case measure=> simp [intOf];omega
  ·obtain rfl:k=xs.length:=by omega
   have hrf:r=false:=by rw [HR.o];simp only [decide_eq_false_iff_not];have:=HT.o;rwa [List.take_length] at this
   have HRF:=gi hrf;clear hrf;go_wp2;go_ret;exact ⟨by rw [HRF.o];rfl,Keeps.refl _ _⟩
end Go.Proofs.YtjnlkjlbejelgaaGreat
