/- Part 22 of the proof. No condition: every lemma says its own. -/
import Derived.Test.YtjnlkjlbejelgaaGreatLau
import Derived.Test.YtjnlkjlbejelgaaGreatLar
namespace Go.Proofs.YtjnlkjlbejelgaaGreat
open Go.RowKit
open Go.Value renaming int→H,slice→M,bool→F
open Go.IntKind renaming i64→J
set_option maxRecDepth 100000
set_option maxHeartbeats 16000000
theorem nodeAt_bulk:∀ (path:List Int) {m:MRe} {b o:Nat} {x:MRe × Nat × Nat},nodeAt m b o path=some x→x.1.tree.bulk≤m.tree.bulk:=by
 intro path
 induction path with
 | nil=> intro m b o x h;simp only [nodeAt,Option.some.injEq] at h;subst h;exact Nat.le_refl _
 | cons y r ih=>
  intro m b o x h;obtain ⟨op,sa,sc,set,ka,kc,kids,mn,mx,mode,n,neg⟩:=m
  by_cases hx:0≤y∧y < kids.length
  ·obtain ⟨i,rfl⟩:∃ i:Nat,y=(i:Int):=⟨y.toNat,by omega⟩;have hi:i < kids.length:=by omega
   cases ka with
   | none=> unfold nodeAt at h;rw [if_pos hx] at h;cases h
   | some a=>
    unfold nodeAt at h;rw [if_pos hx] at h;simp only [Int.toNat_natCast,List.getD_eq_getElem?_getD,List.getElem?_eq_getElem hi,Option.getD_some] at h;have h1:=ih h;have h2:=(kids_bulk (Nat.le_refl (MRe.node op sa sc set (some a) kc kids mn mx mode n neg).tree.bulk)).2.2 _ (List.getElem_mem hi);omega
  ·rw [nodeAt_out hx] at h;cases h
theorem aat_any (m:MRe) (path:List Int) (pa:Option Addr) (pc:Nat) (w:World) (k1:m.OK w) (hin:IntsIn w pa path) (hl:path.length≤1000000) (hb:m.tree.bulk≤1000000):
  Calls Tryz.prog 61 #[m.val,M pa path.length pc] w (AtPost w [] 7 (atT m.tree path)):=by
 obtain ⟨B,hBe⟩:∃ B,B=w.heap.size:=⟨_,rfl⟩;obtain ⟨X,hXe⟩:∃ X,X=(w.alloc (.cells m.row.toArray 26)).alloc (.cells #[H J 0,M none 0 0,M none 0 0,H J 0,H J 0,H J 0,H J 0,F false] 26):=⟨_,rfl⟩;have hkX:Keeps [] w X:=by rw [hXe];exact Keeps.a2 _ _ _
 have hb1:X.heap[B]? =some (.cells m.row.toArray 26 (0,0)):=by rw [hXe,hBe];exact (Keeps.a1 _ _).heap (heap_alloc_new w _) (by simp)
 have hz:X.heap[B + 1]? =some (.cells #[H J 0,M none 0 0,M none 0 0,H J 0,H J 0,H J 0,H J 0,F false] 26 (0,0)):=by rw [hXe,hBe];exact heap_alloc2_new w _ _
 have HF:=find_any m B 0 path pa pc X (At8.of_block hb1 rfl) (k1.keep hkX) (hin.keepS hkX (fun _ _=> by simp)) hl;have hat:=nodeAt_atT path (m:=m) (b:=B) (o:=0) k1;obtain ⟨R,hR⟩:∃ R,R=nodeAt m B 0 path:=⟨_,rfl⟩;rw [←hR] at HF hat;obtain ⟨O,hO⟩:∃ O,O=atT m.tree path:=⟨_,rfl⟩;rw [←hO] at hat ⊢;have HBU:=gi (show ∀ x,R=some x→x.1.tree.bulk≤1000000 from fun x hx=> by have:=nodeAt_bulk path (hR.symm.trans hx);omega);have HAT:=gi hat;have HF:=gi HF;have HBE:=gi hBe;have HKX:=gi hkX;have HZ:=gi hz;obtain ⟨op,sa,sc,set,ka,kc,kids,mn,mx,mode,n,neg⟩:=m;simp only [MRe.row] at hXe;have HXE:=gi hXe;simp only [MRe.val];clear hBe hXe hkX hb1 hz hR hO k1 hin hl hb hat;go_enter Tryz.func61,Tryz.ntmps61
 go_upto_region 1 with fail
 rw [←HXE.o,←HBE.o];go_wp2_with fail
 refine Calls.mono HF.o ?_;rintro e w2 ⟨rfl,hk2,hfd⟩;have K2:=gi hk2;have HFD:=gi hfd;clear hk2 hfd
 cases R with
 | none=>
  have HR:=gi (show O=none from HAT.o.symm);simp only [placeOf,Option.map_none];obtain ⟨z0,z1,z2,z3,z4,z5,z6,z7,zf,HR2,HK2⟩:=nn HBE.o HKX.o K2.o HZ.o;go_wp2;refine rt HR2.o ?_;exact AtPost.of_none HR.o rfl HK2.o
 | some x=>
  obtain ⟨mk,bb,oo⟩:=x;have HR:=gi (show O=some mk.tree from HAT.o.symm);have hfa:FindAt w2 mk bb oo:=HFD.o;have HCL:=aclone_any mk w2 hfa.ok (HBU.o _ rfl);obtain ⟨T,hT⟩:∃ T,T=mk.tree:=⟨_,rfl⟩;rw [←hT] at HCL HR;have h8:=hfa.at8;obtain ⟨op3,sa3,sc3,set3,ka3,kc3,kids3,mn3,mx3,mode3,n3,neg3⟩:=mk;have g:=h8.node;obtain ⟨e0,e1,e2,e3,e4,e5,e6,e7⟩:=id g;simp only [MRe.val] at HCL;have HCL:=gi HCL;simp only [placeOf,Option.map_some];clear g h8 hfa hT;go_wp2_with fail
  refine Calls.mono HCL.o ?_;rintro e w5 ⟨q,rfl,hqt,hqo,hk5,hqs,_⟩;obtain ⟨q0,hq0⟩:∃ q0,q0=q:=⟨_,rfl⟩;rw [←hq0] at hqt hqo hqs;have Q0:=gi hq0;have QT:=gi hqt;have QO:=gi hqo;have QS:=gi hqs;have K5:=gi (K2.o.trans hk5);have hs2:B + 2≤w2.heap.size:=by have:=lt_of_block (K2.o.h HZ.o);omega
  obtain ⟨op9,sa9,sc9,set9,ka9,kc9,kids9,mn9,mx9,mode9,n9,neg9⟩:=q;simp only [MRe.val];clear hqt hqo hk5 hqs hq0 e0 e1 e2 e3 e4 e5 e6 e7;obtain ⟨z0,z1,z2,z3,z4,z5,z6,z7,zf⟩:=zero_cells (K5.o.h HZ.o);obtain ⟨H1,H2,H3,H4⟩:=js (rule_store HBE.o HKX.o K5.o HZ.o (by rw [←Q0.o];exact QO.o) (show From (B + 2) [] (MRe.blocks (.node op9 sa9 sc9 set9 ka9 kc9 kids9 mn9 mx9 mode9 n9 neg9)) by rw [←Q0.o];exact fun b hb=> .inr (Nat.le_trans hs2 (QS.o.2 b hb).1)) (fun b hb=> by cases hb));go_wp2;refine rt H1.o ?_;exact AtPost.of_some (.node op9 sa9 sc9 set9 ka9 kc9 kids9 mn9 mx9 mode9 n9 neg9) (by rw [HR.o,←Q0.o,QT.o]) rfl H2.o H3.o H4.o
def putM:MRe→List Int→MRe→MRe
 | _,[],p=> p
 | .node op sa sc set ka kc kids mn mx mode n neg,x::r,p=> .node op sa sc set ka kc (kids.set x.toNat (putM (kids.getD x.toNat .nil) r p)) mn mx mode n neg
@[reducible] def set8o (w:World) (g o:Nat) (v0 v1 v2 v3 v4 v5 v6 v7:Value):World:=
 (((((((w.setCell ⟨g,o,none⟩ v0).setCell ⟨g,o + 1,none⟩ v1).setCell ⟨g,o + 2,none⟩ v2).setCell ⟨g,o + 3,none⟩ v3).setCell ⟨g,o + 4,none⟩ v4).setCell ⟨g,o + 5,none⟩ v5).setCell ⟨g,o + 6,none⟩ v6).setCell ⟨g,o + 7,none⟩ v7
theorem set8o_keeps (w:World) (g o:Nat) (v0 v1 v2 v3 v4 v5 v6 v7:Value):Keeps [g] w (set8o w g o v0 v1 v2 v3 v4 v5 v6 v7):=
 ((((((((Keeps.refl [g] w).setCell (p:=⟨g,o,none⟩) (.inl (by simp)) _).setCell (p:=⟨g,o + 1,none⟩) (.inl (by simp)) _).setCell (p:=⟨g,o + 2,none⟩) (.inl (by simp)) _).setCell (p:=⟨g,o + 3,none⟩) (.inl (by simp)) _).setCell (p:=⟨g,o + 4,none⟩) (.inl (by simp)) _).setCell (p:=⟨g,o + 5,none⟩) (.inl (by simp)) _).setCell (p:=⟨g,o + 6,none⟩) (.inl (by simp)) _).setCell (p:=⟨g,o + 7,none⟩) (.inl (by simp)) _
theorem set8o_out {w:World} {g o o':Nat} (h:o' < o∨o + 8≤o') (v0 v1 v2 v3 v4 v5 v6 v7:Value):(set8o w g o v0 v1 v2 v3 v4 v5 v6 v7).cell? ⟨g,o',none⟩=w.cell? ⟨g,o',none⟩:=by
 have hne:∀ j,j < 8→(⟨g,o + j,none⟩:Addr)≠⟨g,o',none⟩:=fun j hj he=> by have:=congrArg Addr.off he;simp only at this;omega
 unfold set8o;rw [World.cell?_setCell_other _ _ _ _ (hne 7 (by omega)),World.cell?_setCell_other _ _ _ _ (hne 6 (by omega)),World.cell?_setCell_other _ _ _ _ (hne 5 (by omega)),World.cell?_setCell_other _ _ _ _ (hne 4 (by omega)),World.cell?_setCell_other _ _ _ _ (hne 3 (by omega)),World.cell?_setCell_other _ _ _ _ (hne 2 (by omega)),World.cell?_setCell_other _ _ _ _ (hne 1 (by omega)),World.cell?_setCell_other _ _ _ _ (show (⟨g,o,none⟩:Addr)≠⟨g,o',none⟩ from hne 0 (by omega))]
theorem set8o_at8 {w:World} {g o:Nat} {m:MRe} {op sa sc set ka kc kids mn mx mode n neg} (h:At8 w g o m):At8 (set8o w g o (H J op) (M sa set.length sc) (M ka kids.length kc) (H J mn) (H J mx) (H J mode) (H J n) (F neg)) g o (.node op sa sc set ka kc kids mn mx mode n neg):=by
 have hs:∀ j,j < 8→∃ v,w.cell? ⟨g,o + j,none⟩=some v:=fun j hj=> ⟨_,h j (by rw [MRe.row_length];exact hj)⟩;have hex:∀ (W:World) (p:Addr) (v:Value) (j:Nat),(∃ u,W.cell? ⟨g,o + j,none⟩=some u)→∃ u,(W.setCell p v).cell? ⟨g,o + j,none⟩=some u:=fun W p v j ⟨u,hu⟩=> RowKit.cell?_setCell_some hu;have hne:∀ i j:Nat,i≠j→(⟨g,o + i,none⟩:Addr)≠⟨g,o + j,none⟩:=fun i j hij he=> by have:=congrArg Addr.off he;simp only at this;omega
 intro j hj;rw [MRe.row_length] at hj;unfold set8o;obtain rfl | rfl | rfl | rfl | rfl | rfl | rfl | rfl:j=0∨j=1∨j=2∨j=3∨j=4∨j=5∨j=6∨j=7:=by omega
 ·rw [World.cell?_setCell_other _ _ _ _ (hne 7 0 (by omega)),World.cell?_setCell_other _ _ _ _ (hne 6 0 (by omega)),World.cell?_setCell_other _ _ _ _ (hne 5 0 (by omega)),World.cell?_setCell_other _ _ _ _ (hne 4 0 (by omega)),World.cell?_setCell_other _ _ _ _ (hne 3 0 (by omega)),World.cell?_setCell_other _ _ _ _ (hne 2 0 (by omega)),World.cell?_setCell_other _ _ _ _ (hne 1 0 (by omega))];obtain ⟨u,hu⟩:=hs 0 (by omega);exact World.cell?_setCell_same _ _ _ hu
 ·rw [World.cell?_setCell_other _ _ _ _ (hne 7 1 (by omega)),World.cell?_setCell_other _ _ _ _ (hne 6 1 (by omega)),World.cell?_setCell_other _ _ _ _ (hne 5 1 (by omega)),World.cell?_setCell_other _ _ _ _ (hne 4 1 (by omega)),World.cell?_setCell_other _ _ _ _ (hne 3 1 (by omega)),World.cell?_setCell_other _ _ _ _ (hne 2 1 (by omega))];obtain ⟨u,hu⟩:=hex _ ⟨g,o,none⟩ (H J op) 1 (hs 1 (by omega));exact World.cell?_setCell_same _ _ _ hu
 ·rw [World.cell?_setCell_other _ _ _ _ (hne 7 2 (by omega)),World.cell?_setCell_other _ _ _ _ (hne 6 2 (by omega)),World.cell?_setCell_other _ _ _ _ (hne 5 2 (by omega)),World.cell?_setCell_other _ _ _ _ (hne 4 2 (by omega)),World.cell?_setCell_other _ _ _ _ (hne 3 2 (by omega))];obtain ⟨u,hu⟩:=hex _ ⟨g,o + 1,none⟩ (M sa set.length sc) 2 (hex _ ⟨g,o,none⟩ (H J op) 2 (hs 2 (by omega)));exact World.cell?_setCell_same _ _ _ hu
 ·rw [World.cell?_setCell_other _ _ _ _ (hne 7 3 (by omega)),World.cell?_setCell_other _ _ _ _ (hne 6 3 (by omega)),World.cell?_setCell_other _ _ _ _ (hne 5 3 (by omega)),World.cell?_setCell_other _ _ _ _ (hne 4 3 (by omega))];obtain ⟨u,hu⟩:=hex _ ⟨g,o + 2,none⟩ (M ka kids.length kc) 3 (hex _ ⟨g,o + 1,none⟩ (M sa set.length sc) 3 (hex _ ⟨g,o,none⟩ (H J op) 3 (hs 3 (by omega))));exact World.cell?_setCell_same _ _ _ hu
 ·rw [World.cell?_setCell_other _ _ _ _ (hne 7 4 (by omega)),World.cell?_setCell_other _ _ _ _ (hne 6 4 (by omega)),World.cell?_setCell_other _ _ _ _ (hne 5 4 (by omega))];obtain ⟨u,hu⟩:=hex _ ⟨g,o + 3,none⟩ (H J mn) 4 (hex _ ⟨g,o + 2,none⟩ (M ka kids.length kc) 4 (hex _ ⟨g,o + 1,none⟩ (M sa set.length sc) 4 (hex _ ⟨g,o,none⟩ (H J op) 4 (hs 4 (by omega)))));exact World.cell?_setCell_same _ _ _ hu
 ·rw [World.cell?_setCell_other _ _ _ _ (hne 7 5 (by omega)),World.cell?_setCell_other _ _ _ _ (hne 6 5 (by omega))];obtain ⟨u,hu⟩:=hex _ ⟨g,o + 4,none⟩ (H J mx) 5 (hex _ ⟨g,o + 3,none⟩ (H J mn) 5 (hex _ ⟨g,o + 2,none⟩ (M ka kids.length kc) 5 (hex _ ⟨g,o + 1,none⟩ (M sa set.length sc) 5 (hex _ ⟨g,o,none⟩ (H J op) 5 (hs 5 (by omega))))));exact World.cell?_setCell_same _ _ _ hu
 ·rw [World.cell?_setCell_other _ _ _ _ (hne 7 6 (by omega))];obtain ⟨u,hu⟩:=hex _ ⟨g,o + 5,none⟩ (H J mode) 6 (hex _ ⟨g,o + 4,none⟩ (H J mx) 6 (hex _ ⟨g,o + 3,none⟩ (H J mn) 6 (hex _ ⟨g,o + 2,none⟩ (M ka kids.length kc) 6 (hex _ ⟨g,o + 1,none⟩ (M sa set.length sc) 6 (hex _ ⟨g,o,none⟩ (H J op) 6 (hs 6 (by omega)))))));exact World.cell?_setCell_same _ _ _ hu
 ·obtain ⟨u,hu⟩:=hex _ ⟨g,o + 6,none⟩ (H J n) 7 (hex _ ⟨g,o + 5,none⟩ (H J mode) 7 (hex _ ⟨g,o + 4,none⟩ (H J mx) 7 (hex _ ⟨g,o + 3,none⟩ (H J mn) 7 (hex _ ⟨g,o + 2,none⟩ (M ka kids.length kc) 7 (hex _ ⟨g,o + 1,none⟩ (M sa set.length sc) 7 (hex _ ⟨g,o,none⟩ (H J op) 7 (hs 7 (by omega))))))));exact World.cell?_setCell_same _ _ _ hu
theorem nodeAt_in:∀ (path:List Int) {m:MRe} {b o:Nat} {w:World} {x:MRe × Nat × Nat},m.OK w→nodeAt m b o path=some x→(path=[]∧x=(m,b,o))∨x.2.1∈m.kb:=by
 intro path
 induction path with
 | nil=> intro m b o w x _ h;simp only [nodeAt,Option.some.injEq] at h;exact .inl ⟨rfl,h.symm⟩
 | cons y r ih=>
  intro m b o w x k1 h;obtain ⟨op,sa,sc,set,ka,kc,kids,mn,mx,mode,n,neg⟩:=m
  right
  by_cases hx:0≤y∧y < kids.length
  ·obtain ⟨i,rfl⟩:∃ i:Nat,y=(i:Int):=⟨y.toNat,by omega⟩;have hi:i < kids.length:=by omega
   obtain ⟨b',off,rfl,_,_⟩:=k1.kids.nodes.kid (by omega);rw [nodeAt_cons rfl i rfl hi] at h;simp only [MRe.kb,List.mem_append]
   rcases ih (k1.kid (List.getElem_mem hi)) h with ⟨_,rfl⟩ | hk
   ·left
    unfold blockIf;rw [if_neg (by omega)]
    simp
   ·right
    have hmem:∀ (l:List MRe) (j:Nat) (hj:j < l.length) (c:Nat),c∈l[j].kb→c∈MRe.kbL l:=by
     intro l
     induction l with
     | nil=> intro j hj;simp at hj
     | cons a t ih3=>
      intro j hj c hc;simp only [MRe.kbL,List.mem_append]
      cases j with
      | zero=> exact .inl hc
      | succ j=> exact .inr (ih3 j (by simpa using hj) c hc)
    exact hmem kids i hi _ hk
  ·rw [nodeAt_out hx] at h;cases h
theorem putM_tree:∀ (path:List Int) {m p:MRe} {b o:Nat} {w:World} {x:MRe × Nat × Nat},m.OK w→nodeAt m b o path=some x→putT m.tree path p.tree=some (putM m path p).tree:=by
 intro path
 induction path with
 | nil=> intro m p b o w x _ _;rfl
 | cons y r ih=>
  intro m p b o w x k1 h;obtain ⟨op,sa,sc,set,ka,kc,kids,mn,mx,mode,n,neg⟩:=m
  by_cases hx:0≤y∧y < kids.length
  ·obtain ⟨i,rfl⟩:∃ i:Nat,y=(i:Int):=⟨y.toNat,by omega⟩;have hi:i < kids.length:=by omega
   obtain ⟨b',off,rfl,_,_⟩:=k1.kids.nodes.kid (by omega);rw [nodeAt_cons rfl i rfl hi] at h;have h1:=ih (p:=p) (k1.kid (List.getElem_mem hi)) h
   show (if 0≤(i:Int)∧(i:Int) < (MRe.trees kids).length then (putT ((MRe.trees kids).getD (i:Int).toNat .nil) r p.tree).map fun k=> setKids (MRe.tree (.node op sa sc set (some ⟨b',off,none⟩) kc kids mn mx mode n neg)) ((MRe.trees kids).take (i:Int).toNat ++ (k::(MRe.trees kids).drop ((i:Int).toNat + 1))) else none)=_
   rw [MRe.trees_length,if_pos hx,Int.toNat_natCast,List.getD_eq_getElem?_getD,List.getElem?_eq_getElem (by rw [MRe.trees_length];exact hi),Option.getD_some,trees_getElem,h1];simp only [Option.map_some,putM,MRe.tree,setKids,Int.toNat_natCast,List.getD_eq_getElem?_getD,List.getElem?_eq_getElem hi,Option.getD_some]
   congr 2
   rw [MRe.trees_eq,MRe.trees_eq,List.map_set,List.set_eq_take_append_cons_drop,if_pos (by rw [List.length_map];exact hi)];exact hi
  ·rw [nodeAt_out hx] at h;cases h
theorem blocks_disj {l:List MRe} (h:(MRe.blocksL l).Nodup) {i j:Nat} (hi:i < l.length) (hj:j < l.length) (hij:i≠j):∀ b∈l[i].blocks,b ∉ l[j].blocks:=by
 induction l generalizing i j with
 | nil=> simp at hi
 | cons x r ih=>
  rw [MRe.blocksL,List.nodup_append] at h;obtain ⟨h1,h2,h3⟩:=h;intro b hb hb'
  cases i with
  | zero=>
   cases j with
   | zero=> exact hij rfl
   | succ j=> exact h3 b hb b (MRe.mem_blocksL (List.getElem_mem (by simpa using hj)) hb') rfl
  | succ i=>
   cases j with
   | zero=> exact h3 b hb' b (MRe.mem_blocksL (List.getElem_mem (by simpa using hi)) hb) rfl
   | succ j=> exact ih h2 (by simpa using hi) (by simpa using hj) (by omega) b hb hb'
theorem blocks_nodup {l:List MRe} (h:(MRe.blocksL l).Nodup) {i:Nat} (hi:i < l.length):l[i].blocks.Nodup:=by
 induction l generalizing i with
 | nil=> simp at hi
 | cons x r ih=>
  rw [MRe.blocksL,List.nodup_append] at h
  cases i with
  | zero=> exact h.1
  | succ i=> exact ih h.2.1 (by simpa using hi)
theorem putM_ok {w:World} {bb oo:Nat} {mk p:MRe} {v0 v1 v2 v3 v4 v5 v6 v7:Value} (hp:p.OK (set8o w bb oo v0 v1 v2 v3 v4 v5 v6 v7)) (hp8:At8 (set8o w bb oo v0 v1 v2 v3 v4 v5 v6 v7) bb oo p):
  ∀ (path:List Int) {m:MRe} {b o:Nat},m.OK w→At8 w b o m→b ∉ m.blocks→m.blocks.Nodup→nodeAt m b o path=some (mk,bb,oo)→
   (putM m path p).OK (set8o w bb oo v0 v1 v2 v3 v4 v5 v6 v7)∧At8 (set8o w bb oo v0 v1 v2 v3 v4 v5 v6 v7) b o (putM m path p):=by
 have hk:=set8o_keeps w bb oo v0 v1 v2 v3 v4 v5 v6 v7;intro path
 induction path with
 | nil=> intro m b o _ _ _ _ h;simp only [nodeAt,Option.some.injEq,Prod.mk.injEq] at h;obtain ⟨rfl,rfl,rfl⟩:=h;exact ⟨hp,hp8⟩
 | cons y r ih=>
  intro m b o k1 h8 hb hnd h;obtain ⟨op,sa,sc,set,ka,kc,kids,mn,mx,mode,n,neg⟩:=m
  by_cases hx:0≤y∧y < kids.length
  ·obtain ⟨i,rfl⟩:∃ i:Nat,y=(i:Int):=⟨y.toNat,by omega⟩;have hi:i < kids.length:=by omega
   obtain ⟨kb,off,rfl,hkl,hkx⟩:=k1.kids.nodes.kid (by omega);rw [nodeAt_cons rfl i rfl hi] at h;have hblk:MRe.blocks (.node op sa sc set (some ⟨kb,off,none⟩) kc kids mn mx mode n neg)=blockIf set.length sa ++ ([kb] ++ MRe.blocksL kids):=by
    simp only [MRe.blocks];unfold blockIf;rw [if_neg (show ¬ kids.length=0 by omega)];rfl
   rw [hblk] at hb hnd;obtain ⟨n1,n2,n3⟩:=List.nodup_append.1 hnd;obtain ⟨n4,n5,n6⟩:=List.nodup_append.1 n2;have hkbn:kb ∉ MRe.blocksL kids:=fun hm=> n6 kb (by simp) kb hm rfl;have hkbi:kb ∉ kids[i].blocks:=fun hm=> hkbn (MRe.mem_blocksL (List.getElem_mem hi) hm);obtain ⟨i1,i2⟩:=ih (k1.kid (List.getElem_mem hi)) (hkx i hi) hkbi (blocks_nodup n5 hi) h;have hbb:bb=kb∨bb∈kids[i].blocks:=by
    rcases nodeAt_in r (k1.kid (List.getElem_mem hi)) h with ⟨_,he⟩ | hm
    ·simp only [Prod.mk.injEq] at he;exact .inl he.2.1
    ·exact .inr (MRe.kb_sub _ _ hm)
   have hoo:bb=kb→oo=off + i * 8:=fun he=> by
    rcases nodeAt_in r (k1.kid (List.getElem_mem hi)) h with ⟨_,he2⟩ | hm
    ·simp only [Prod.mk.injEq] at he2;exact he2.2.2
    ·exact absurd (MRe.kb_sub _ _ hm) (by rw [he];exact hkbi)
   have hbm:bb∈[kb] ++ MRe.blocksL kids:=by
    rcases hbb with rfl | hm
    ·simp
    ·exact List.mem_append_right _ (MRe.mem_blocksL (List.getElem_mem hi) hm)
   have hbne:b≠bb:=fun he=> hb (List.mem_append_right _ (by rw [he];exact hbm));have hset:∀ q∈blockIf set.length sa,q ∉ [bb]:=fun q hq hm=> by simp at hm;subst hm;exact n3 q hq q hbm rfl
   have hjk:∀ j (hj:j < kids.length),j≠i→∀ q∈kids[j].blocks,q ∉ [bb]:=fun j hj hji q hq hm=> by
    simp at hm;subst hm
    rcases hbb with he | hm
    ·rw [he] at hq;exact hkbn (MRe.mem_blocksL (List.getElem_mem hj) hq)
    ·exact blocks_disj n5 hj hi hji q hq hm
   simp only [putM,Int.toNat_natCast,List.getD_eq_getElem?_getD,List.getElem?_eq_getElem hi,Option.getD_some];refine ⟨.of (k1.spans.keepS hk hset) ⟨⟨by rw [List.length_set];exact k1.nodes.le,k1.nodes.cap,k1.nodes.nil_,fun h0=> ⟨kb,off,rfl,Nat.lt_of_lt_of_le hkl hk.size,fun j hj t ht=> ?_⟩⟩,fun x hx=> ?_⟩,fun j hj=> ?_⟩
   ·rw [List.length_set] at hj
    by_cases hji:j=i
    ·subst hji
     have:=i2 t (by simpa using ht)
     simpa using this
    ·have hg:(kids.set i (putM kids[i] r p))[j]'(by rw [List.length_set];exact hj)=kids[j]:=by rw [List.getElem_set];exact if_neg (Ne.symm hji)
     have h1:=hkx j hj t (by rw [MRe.row_length] at ht ⊢;exact ht);simp only [hg]
     by_cases hkk:bb=kb
     ·have ho:=hoo hkk;rw [MRe.row_length] at ht;subst hkk;rw [set8o_out (by omega),h1]
     ·rw [hk.cell h1 (by simp;exact fun he=> hkk he.symm)]
   ·obtain ⟨j,hj,rfl⟩:=List.getElem_of_mem hx;rw [List.length_set] at hj
    by_cases hji:j=i
    ·subst hji;simpa using i1
    ·have hg:(kids.set i (putM kids[i] r p))[j]'(by rw [List.length_set];exact hj)=kids[j]:=by rw [List.getElem_set];exact if_neg (Ne.symm hji)
     rw [hg];exact (k1.kid (List.getElem_mem hj)).keepS hk (hjk j hj hji)
   ·have hrow:(MRe.row (.node op sa sc set (some ⟨kb,off,none⟩) kc (kids.set i (putM kids[i] r p)) mn mx mode n neg))=MRe.row (.node op sa sc set (some ⟨kb,off,none⟩) kc kids mn mx mode n neg):=by simp only [MRe.row,List.length_set]
    have h1:=h8 j (by rw [←hrow];exact hj);simp only [hrow];exact hk.cell h1 (by simp;exact hbne)
  ·rw [nodeAt_out hx] at h;cases h
theorem nodeAt_none {path:List Int} {m:MRe} {b o:Nat} {w:World} (k1:m.OK w) (h:nodeAt m b o path=none) (p:Tree):putT m.tree path p=none:=by
 induction path generalizing m b o with
 | nil=> simp [nodeAt] at h
 | cons y r ih=>
  obtain ⟨op,sa,sc,set,ka,kc,kids,mn,mx,mode,n,neg⟩:=m
  show (if 0≤y∧y < (MRe.trees kids).length then (putT ((MRe.trees kids).getD y.toNat .nil) r p).map _ else none)=none
  rw [MRe.trees_length]
  by_cases hx:0≤y∧y < kids.length
  ·obtain ⟨i,rfl⟩:∃ i:Nat,y=(i:Int):=⟨y.toNat,by omega⟩;have hi:i < kids.length:=by omega
   obtain ⟨b',off,rfl,_,_⟩:=k1.kids.nodes.kid (by omega);rw [nodeAt_cons rfl i rfl hi] at h;rw [if_pos hx,Int.toNat_natCast,List.getD_eq_getElem?_getD,List.getElem?_eq_getElem (by rw [MRe.trees_length];exact hi),Option.getD_some,trees_getElem _ _ hi,ih (k1.kid (List.getElem_mem hi)) h]
   rfl
  ·rw [if_neg hx]
theorem putM_blocks:∀ (path:List Int) {m p:MRe},∀ b∈(putM m path p).blocks,b∈m.blocks∨b∈p.blocks:=by
 intro path
 induction path with
 | nil=> intro m p b hb;exact .inr hb
 | cons y r ih=>
  intro m p b hb;obtain ⟨op,sa,sc,set,ka,kc,kids,mn,mx,mode,n,neg⟩:=m;simp only [putM,MRe.blocks,List.length_set,List.mem_append] at hb ⊢
  rcases hb with h | h | h
  ·exact .inl (.inl h)
  ·exact .inl (.inr (.inl h))
  ·obtain ⟨x,hx,hbx⟩:=MRe.blocksL_mem h
   rcases List.mem_or_eq_of_mem_set hx with hx | rfl
   ·exact .inl (.inr (.inr (MRe.mem_blocksL hx hbx)))
   ·rcases ih b hbx with h | h
    ·left;right;right
     by_cases hy:y.toNat < kids.length
     ·rw [List.getD_eq_getElem?_getD,List.getElem?_eq_getElem hy,Option.getD_some] at h;exact MRe.mem_blocksL (List.getElem_mem hy) h
     ·rw [List.getD_eq_getElem?_getD,List.getElem?_eq_none (by omega)] at h;simp [MRe.nil,MRe.blocks,MRe.blocksL,blockIf] at h
    ·exact .inr h
theorem aput_any (m p:MRe) (path:List Int) (pa:Option Addr) (pc:Nat) (w:World) (k1:m.OK w) (k2:p.OK w) (hin:IntsIn w pa path) (hl:path.length≤1000000) (hb:m.tree.bulk≤1000000) (hbp:p.tree.bulk≤1000000):
  Calls Tryz.prog 30 #[m.val,M pa path.length pc,p.val] w (AtPost w [] 7 (putT m.tree path p.tree)):=by
 obtain ⟨B,hBe⟩:∃ B,B=w.heap.size:=⟨_,rfl⟩;obtain ⟨X,hXe⟩:∃ X,X=((w.alloc (.cells m.row.toArray 26)).alloc (.cells p.row.toArray 26)).alloc (.cells #[H J 0,M none 0 0,M none 0 0,H J 0,H J 0,H J 0,H J 0,F false] 26):=⟨_,rfl⟩;have hkX:Keeps [] w X:=by rw [hXe];exact Keeps.a3 _ _ _ _
 have hb1:X.heap[B]? =some (.cells m.row.toArray 26 (0,0)):=by rw [hXe,hBe];exact (Keeps.a2 _ _ _).heap (heap_alloc_new w _) (by simp)
 have hb2:X.heap[B + 1]? =some (.cells p.row.toArray 26 (0,0)):=by rw [hXe,hBe];exact (Keeps.a1 _ _).heap (heap_alloc2_new w _ _) (by simp)
 have hz:X.heap[B + 2]? =some (.cells #[H J 0,M none 0 0,M none 0 0,H J 0,H J 0,H J 0,H J 0,F false] 26 (0,0)):=by rw [hXe,hBe];have h:=heap_alloc_new ((w.alloc (.cells m.row.toArray 26)).alloc (.cells p.row.toArray 26)) (.cells #[H J 0,M none 0 0,M none 0 0,H J 0,H J 0,H J 0,H J 0,F false] 26);simpa using h
 have HF:=find_any m B 0 path pa pc X (At8.of_block hb1 rfl) (k1.keep hkX) (hin.keepS hkX (fun _ _=> by simp)) hl;obtain ⟨R,hR⟩:∃ R,R=nodeAt m B 0 path:=⟨_,rfl⟩;rw [←hR] at HF;have HR:=gi hR;have HF:=gi HF;have HBE:=gi hBe;have HKX:=gi hkX;have HZ:=gi hz;have HM:=gi k1;have HP:=gi k2;have HIN:=gi hin;have HCL:=gi (fun (W:World) (h:Keeps [] w W)=> aclone_any m W (k1.keep h) hb);have HCP:=gi (fun (W:World) (h:Keeps [] w W)=> aclone_any p W (k2.keep h) hbp);obtain ⟨m0,hm0⟩:∃ m0,m0=m:=⟨_,rfl⟩;obtain ⟨p0,hp0⟩:∃ p0,p0=p:=⟨_,rfl⟩;obtain ⟨TM,hTM⟩:∃ TM,TM=m.tree:=⟨_,rfl⟩;obtain ⟨TP,hTP⟩:∃ TP,TP=p.tree:=⟨_,rfl⟩;rw [←hTM] at HCL ⊢;rw [←hTP] at HCP ⊢;rw [←hm0] at HR HM hTM;rw [←hp0] at HP hTP;have HTM:=gi hTM;have HTP:=gi hTP;obtain ⟨op1,sa1,sc1,set1,ka1,kc1,kids1,mn1,mx1,mode1,n1,neg1⟩:=m;obtain ⟨op2,sa2,sc2,set2,ka2,kc2,kids2,mn2,mx2,mode2,n2,neg2⟩:=p;simp only [MRe.row] at hXe hb1 hb2;simp only [MRe.val] at HCL HCP;have HXE:=gi hXe;obtain ⟨c0,c1,c2,c3,c4,c5,c6,c7⟩:=row_cells (v0:=H J op1) (v1:=M sa1 set1.length sc1) (v2:=M ka1 kids1.length kc1) (v3:=H J mn1) (v4:=H J mx1) (v5:=H J mode1) (v6:=H J n1) (v7:=F neg1) hb1;obtain ⟨d0,d1,d2,d3,d4,d5,d6,d7⟩:=row_cells (v0:=H J op2) (v1:=M sa2 set2.length sc2) (v2:=M ka2 kids2.length kc2) (v3:=H J mn2) (v4:=H J mx2) (v5:=H J mode2) (v6:=H J n2) (v7:=F neg2) hb2;simp only [MRe.val];clear hBe hXe hkX hb1 hb2 hz hR k1 k2 hin hb hbp hm0 hp0 hTM hTP;go_enter Tryz.func30,Tryz.ntmps30
 go_upto_region 1 with fail
 rw [←HXE.o,←HBE.o];go_wp2_with fail
 refine Calls.mono HF.o ?_;rintro e w2 ⟨rfl,hk2,hfd⟩;have K2:=gi hk2;have hc8:=hk2.c8 c0 c1 c2 c3 c4 c5 c6 c7;clear c0 c1 c2 c3 c4 c5 c6 c7;obtain ⟨c0,c1,c2,c3,c4,c5,c6,c7⟩:=hc8;have hc8:=hk2.c8 d0 d1 d2 d3 d4 d5 d6 d7;clear d0 d1 d2 d3 d4 d5 d6 d7;obtain ⟨d0,d1,d2,d3,d4,d5,d6,d7⟩:=hc8;clear hk2 hfd
 cases R with
 | none=>
  have HRN:=gi (show putT TM path TP=none by rw [HTM.o];exact nodeAt_none HM.o HR.o.symm TP);simp only [placeOf,Option.map_none];obtain ⟨z0,z1,z2,z3,z4,z5,z6,z7,zf⟩:=zero_cells (K2.o.h HZ.o);have HR2:=gi (set8_heap (K2.o.h HZ.o) (H J 0) (M none 0 0) (M none 0 0) (H J 0) (H J 0) (H J 0) (H J 0) (F false));have HK2:=gi ((HKX.o.trans K2.o).after (set8_keeps _ (B + 2) (H J 0) (M none 0 0) (M none 0 0) (H J 0) (H J 0) (H J 0) (H J 0) (F false)) (by intro x hx;simp at hx;subst hx;exact .inr (by rw [HBE.o];omega)));go_wp2;refine rt HR2.o ?_;exact AtPost.of_none HRN.o rfl HK2.o
 | some x=>
  simp only [placeOf,Option.map_some];go_wp2_with fail
  refine Calls.mono (HCL.o _ (HKX.o.trans K2.o)) ?_;rintro e w5 ⟨q,rfl,hqt,hqo,hk5,hqs,hqf⟩;obtain ⟨q0,hq0⟩:∃ q0,q0=q:=⟨_,rfl⟩;rw [←hq0] at hqt hqo hqs hqf;have Q0:=gi hq0;have QT:=gi hqt;have QO:=gi hqo;have QS:=gi hqs;have QF:=gi hqf;have K5:=gi (K2.o.trans hk5);have HW25:=gi hk5.size;have hc8:=hk5.c8 d0 d1 d2 d3 d4 d5 d6 d7;clear d0 d1 d2 d3 d4 d5 d6 d7;obtain ⟨d0,d1,d2,d3,d4,d5,d6,d7⟩:=hc8;obtain ⟨op9,sa9,sc9,set9,ka9,kc9,kids9,mn9,mx9,mode9,n9,neg9⟩:=q;simp only [MRe.val];clear hqt hqo hk5 hqs hqf hq0 c0 c1 c2 c3 c4 c5 c6 c7;go_upto_region 4 with fail
  obtain ⟨V,hVe⟩:∃ V,V=w5.alloc (.cells #[H J op9,M sa9 set9.length sc9,M ka9 kids9.length kc9,H J mn9,H J mx9,H J mode9,H J n9,F neg9] 26):=⟨_,rfl⟩;obtain ⟨G8,hG8⟩:∃ G8,G8=w5.heap.size:=⟨_,rfl⟩;have hkV:Keeps [] w5 V:=by rw [hVe];exact Keeps.a1 _ _
  have h8:V.heap[G8]? =some (.cells q0.row.toArray 26 (0,0)):=by rw [hVe,hG8,Q0.o];exact heap_alloc_new w5 _
  rw [←hVe,←hG8];have HSZ:=gi (show B + 3≤w2.heap.size∧w2.heap.size≤G8 from ⟨by have:=lt_of_block (K2.o.h HZ.o);omega,by rw [hG8];have:=QS.o.2;have:=K5.o.size;have h:=K2.o.size;exact (show w2.heap.size≤w5.heap.size from HW25.o)⟩);have KV:=gi (K5.o.trans hkV);have H8:=gi h8;have HQV:=gi (QO.o.keep hkV);have HQ8:=gi (show ∀ b∈q0.blocks,w2.heap.size≤b∧b < G8 from fun b hb=> ⟨(QS.o.2 b hb).1,by rw [hG8];exact (QS.o.2 b hb).2⟩);have HSF:=gi (QF.o.keepS hkV (fun b hb=> (QS.o.2 b (MRe.kb_sub q0 b hb)).2) (by simp));have hc8:=hkV.c8 d0 d1 d2 d3 d4 d5 d6 d7;clear d0 d1 d2 d3 d4 d5 d6 d7;obtain ⟨d0,d1,d2,d3,d4,d5,d6,d7⟩:=hc8;have hat:∃ y,nodeAt q0 G8 0 path=some y:=by
   have h1:=nodeAt_atT path (m:=q0) (b:=G8) (o:=0) QO.o;have h2:=nodeAt_atT path (m:=m0) (b:=B) (o:=0) HM.o;rw [←HR.o,←HTM.o] at h2;rw [QT.o,←h2] at h1
   cases hq:nodeAt q0 G8 0 path with
   | none=> rw [hq] at h1;cases h1
   | some y=> exact ⟨y,rfl⟩
  obtain ⟨⟨mk,bb,oo⟩,hnode⟩:=hat;have HN:=gi hnode;have HF2:=gi (fun (W:World) (h:Keeps [] V W)=> find_any q0 G8 0 path pa pc W ((At8.of_block h8 rfl).keep h) (HQV.o.keep h) (HIN.o.keepS ((HKX.o.trans KV.o).trans h) (fun _ _=> by simp)) hl);rw [hnode] at HF2;simp only [placeOf,Option.map_some] at HF2;have HBB:=gi (show bb=G8∨bb∈q0.kb from by
   rcases nodeAt_in path QO.o hnode with ⟨_,he⟩ | h
   ·simp only [Prod.mk.injEq] at he;exact .inl he.2.1
   ·exact .inr h)
  have HBW:=gi (show w2.heap.size≤bb∧bb≤G8 by
   rcases HBB.o with h | h
   ·rw [h];exact ⟨HSZ.o.2,Nat.le_refl _⟩
   ·have:=HQ8.o bb (MRe.kb_sub q0 bb h);omega)
  have K0:=gi ((Keeps.refl [] V).drew);clear hVe hG8 hkV h8 hnode;refine rg (S:=fun w'=> w'.cell? ⟨B + 1,0,none⟩=some (H J op2)∧w'.cell? ⟨B + 1,1,none⟩=some (M sa2 set2.length sc2)∧w'.cell? ⟨B + 1,2,none⟩=some (M ka2 kids2.length kc2)∧w'.cell? ⟨B + 1,3,none⟩=some (H J mn2)∧w'.cell? ⟨B + 1,4,none⟩=some (H J mx2)∧w'.cell? ⟨B + 1,5,none⟩=some (H J mode2)∧w'.cell? ⟨B + 1,6,none⟩=some (H J n2)∧w'.cell? ⟨B + 1,7,none⟩=some (F neg2)) (fun _ k=> ⟨k.c d0,k.c d1,k.c d2,k.c d3,k.c d4,k.c d5,k.c d6,k.c d7⟩) fun kz hHeld=> ?_;refine tk 0 ?_;refine tk 2 ?_;refine j6 1 fun K hK=> ?_;go_simp;refine Calls.mono (HF2.o _ K0.o) ?_;rintro ee w6 ⟨rfl,hk6,hfd⟩;have K6:=gi (K0.o.trans hk6);have HFA:=gi (show FindAt w6 mk bb oo from hfd);clear hk6 hfd;refine hK.out _ _ (kz.o _ K6.o) fun hHeld=> ?_;clear hK K;try go_frame
  refine j6 3 fun K hK=> ?_;go_simp;refine Calls.mono (HCP.o _ ((HKX.o.trans KV.o).trans K6.o)) ?_;rintro ee w7 ⟨t,rfl,htt,hto,hk7,hts,htf⟩;have K7:=gi (K6.o.trans hk7);have TT:=gi htt;have TO:=gi hto;have TS:=gi hts;have HA7:=gi (HFA.o.at8.keep hk7);obtain ⟨t0,ht0⟩:∃ t0,t0=t:=⟨_,rfl⟩;rw [←ht0] at TT TO TS;have T0:=gi ht0;obtain ⟨op7,sa7,sc7,set7,ka7,kc7,kids7,mn7,mx7,mode7,n7,neg7⟩:=t;simp only [MRe.val];clear htt hto hk7 hts htf ht0;refine hK.out _ _ (kz.o _ K7.o) fun hHeld=> ?_;clear hK K;try go_frame
  refine tk 4 ?_;have hfz:∀ o,w7.frozen? ⟨bb,o,none⟩=false:=by
   rcases HBB.o with h | h
   ·rw [h];exact row_frozen (K7.o.h H8.o)
   ·exact (HSF.o.keepS K7.o (fun b hb=> by have:=(HQ8.o b (MRe.kb_sub q0 b hb)).2;have:=lt_of_block H8.o;omega) (by simp)) bb h
  obtain ⟨mk0,hmk0⟩:∃ mk0,mk0=mk:=⟨_,rfl⟩;have HMK:=gi hmk0;have ha7:=HA7.o;obtain ⟨op3,sa3,sc3,set3,ka3,kc3,kids3,mn3,mx3,mode3,n3,neg3⟩:=mk;have g:=ha7.node;obtain ⟨e0,e1,e2,e3,e4,e5,e6,e7⟩:=id g;refine j6 5 fun K hK=> ?_;go_simp;have hkS:=set8o_keeps w7 bb oo (H J op7) (M sa7 set7.length sc7) (M ka7 kids7.length kc7) (H J mn7) (H J mx7) (H J mode7) (H J n7) (F neg7);have KS:=gi hkS;have KS0:=gi hkS;have hbB:¬ B + 1=bb:=by have:=HBW.o.1;have:=HSZ.o.1;omega
  have hW:w7.heap.size≤(set8o w7 bb oo (H J op7) (M sa7 set7.length sc7) (M ka7 kids7.length kc7) (H J mn7) (H J mx7) (H J mode7) (H J n7) (F neg7)).heap.size:=hkS.size;have hbb7:bb < w7.heap.size:=by have:=HBW.o.2;have:=lt_of_block H8.o;have:=K7.o.size;omega
  have htb:∀ b∈t0.blocks,V.heap.size≤b:=fun b hb=> Nat.le_trans K6.o.size (TS.o.2 b hb).1;have hp9:t0.OK (set8o w7 bb oo (H J op7) (M sa7 set7.length sc7) (M ka7 kids7.length kc7) (H J mn7) (H J mx7) (H J mode7) (H J n7) (F neg7)):=TO.o.keepS hkS fun b hb=> by have:=htb b hb;have:=HBW.o.2;have:=lt_of_block H8.o;simp;omega
  have hp8:At8 (set8o w7 bb oo (H J op7) (M sa7 set7.length sc7) (M ka7 kids7.length kc7) (H J mn7) (H J mx7) (H J mode7) (H J n7) (F neg7)) bb oo t0:=by rw [T0.o];exact set8o_at8 HA7.o
  have hput:=putM_ok (mk:=mk0) hp9 hp8 path (HQV.o.keep K7.o) ((At8.of_block H8.o rfl).keep K7.o) (fun hm=> by have:=(HQ8.o G8 hm).2;omega) QS.o.1 (by rw [HMK.o];exact HN.o);have htree:=putM_tree path (p:=t0) (HQV.o.keep K7.o) HN.o;rw [QT.o,TT.o] at htree;have hzb:∀ b∈(putM q0 path t0).blocks,B + 3≤b:=fun b hb=> by
   rcases putM_blocks path b hb with h | h
   ·have:=(HQ8.o b h).1;have:=HSZ.o.1;omega
   ·have:=htb b h;have:=lt_of_block H8.o;have:=HSZ.o;omega
  have HZB:=gi hzb;obtain ⟨zz,hzz⟩:∃ zz,zz=putM q0 path t0:=⟨_,rfl⟩;rw [←hzz] at hput htree HZB;have HPT:=gi hput;have HTR:=gi htree;obtain ⟨Z9,hZ9⟩:∃ Z9,Z9=set8o w7 bb oo (H J op7) (M sa7 set7.length sc7) (M ka7 kids7.length kc7) (H J mn7) (H J mx7) (H J mode7) (H J n7) (F neg7):=⟨_,rfl⟩;rw [←hZ9] at HPT KS;have KX9:=gi (show Keeps [] X Z9 from (KV.o.trans K7.o).after KS.o (by intro y hy;simp at hy;subst hy;exact .inr (by have h1:=HBW.o.1;have h2:=K2.o.size;omega)));have HZ9:=gi hZ9;clear g hkS hW hbb7 htb hp9 hp8 hput htree hzb hzz hZ9 ha7 hfz hmk0;refine hK.out _ _ (⟨KS0.o.cell (K7.o.c d0) (by simp;exact hbB),KS0.o.cell (K7.o.c d1) (by simp;exact hbB),KS0.o.cell (K7.o.c d2) (by simp;exact hbB),KS0.o.cell (K7.o.c d3) (by simp;exact hbB),KS0.o.cell (K7.o.c d4) (by simp;exact hbB),KS0.o.cell (K7.o.c d5) (by simp;exact hbB),KS0.o.cell (K7.o.c d6) (by simp;exact hbB),KS0.o.cell (K7.o.c d7) (by simp;exact hbB)⟩) (fun hHeld=> ?_);clear hK K;try go_frame
  refine wd ?_;clear hHeld e0 e1 e2 e3 e4 e5 e6 e7 d0 d1 d2 d3 d4 d5 d6 d7;have hZe:=HZ9.o;unfold set8o at hZe;rw [←hZe];clear hZe KS0;have h8z:=HPT.o.2;obtain ⟨z0,hz0⟩:∃ z0,z0=zz:=⟨_,rfl⟩;have Z0:=gi hz0;rw [←hz0] at HPT HTR HZB;obtain ⟨op4,sa4,sc4,set4,ka4,kc4,kids4,mn4,mx4,mode4,n4,neg4⟩:=zz;have g:=h8z.node;obtain ⟨u0,u1,u2,u3,u4,u5,u6,u7⟩:=id g;clear g h8z hz0;obtain ⟨y0,y1,y2,y3,y4,y5,y6,y7,yf⟩:=zero_cells (KX9.o.h HZ.o);obtain ⟨H1,H2,H3,H4⟩:=js (rule_storeG (by rw [HBE.o];omega:w.heap.size≤B + 2) HKX.o KX9.o HZ.o (by rw [←Z0.o];exact HPT.o.1) (show From (B + 2 + 1) [] (MRe.blocks (.node op4 sa4 sc4 set4 ka4 kc4 kids4 mn4 mx4 mode4 n4 neg4)) by rw [←Z0.o];exact fun b hb=> .inr (HZB.o b hb)) (fun b hb=> by cases hb));go_wp2;refine rt H1.o ?_;exact AtPost.of_some (.node op4 sa4 sc4 set4 ka4 kc4 kids4 mn4 mx4 mode4 n4 neg4) (by rw [HTR.o,Z0.o]) rfl H2.o H3.o H4.o
end Go.Proofs.YtjnlkjlbejelgaaGreat
