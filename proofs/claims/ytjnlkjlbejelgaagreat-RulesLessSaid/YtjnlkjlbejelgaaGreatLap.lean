/- Part 16 of the proof. No condition: every lemma says its own. -/
import Derived.Deep.DeepCutAuto
import Derived.Deep.RegionHeld3
import Derived.Test.YtjnlkjlbejelgaaGreatLao
import Derived.Test.YtjnlkjlbejelgaaGreatLac
import Derived.Test.YtjnlkjlbejelgaaGreatLae
import Derived.Test.YtjnlkjlbejelgaaGreatLaa
import Derived.Test.YtjnlkjlbejelgaaGreatLak
namespace Go.Proofs.YtjnlkjlbejelgaaGreat
open Go.RowKit
open Go.Value renaming int→H,slice→M,bool→F
open Go.IntKind renaming i64→J
set_option maxRecDepth 100000
set_option maxHeartbeats 16000000
def twinO (seen:List Tree):List Tree→Option Nat
 | []=> none
 | k::ks=> if (seen.any fun o=> eqB o k)=true then some 0 else (twinO (seen ++ [k]) ks).map (· + 1)
def twinR (t:Tree):Option Tree:=if t.op=3 then (twinO [] t.kids).map fun i=> swapT 3 t.kids i (i + 1) [] else none
theorem twinO_step {l:List Tree} {k:Nat} {x:Tree} {r:List Tree} {o:Option Nat} (hd:l.drop k=x::r) (hn:((l.take k).any fun o=> eqB o x)=false) (h:(twinO (l.take k) (l.drop k)).map (· + k)=o):(twinO (l.take (k + 1)) (l.drop (k + 1))).map (· + (k + 1))=o:=by
 have hk:k < l.length:=by
  rcases Nat.lt_or_ge k l.length with h1 | h1
  ·exact h1
  ·rw [List.drop_of_length_le h1] at hd;cases hd
 have hx:l[k]=x:=by rw [List.drop_eq_getElem_cons hk] at hd;exact (List.cons.inj hd).1
 have hr:l.drop (k + 1)=r:=by rw [List.drop_eq_getElem_cons hk] at hd;exact (List.cons.inj hd).2
 rw [hd,twinO,if_neg (by rw [hn];simp)] at h;have ht:=List.take_append_getElem hk;rw [hx] at ht;rw [hr,←ht,←h]
 cases twinO (l.take k ++ [x]) r with
 | none=> rfl
 | some i=> simp;omega
theorem twinO_at {l:List Tree} {k:Nat} {x:Tree} {r:List Tree} {o:Option Nat} (hd:l.drop k=x::r) (hn:((l.take k).any fun o=> eqB o x)=true) (h:(twinO (l.take k) (l.drop k)).map (· + k)=o):o=some k:=by
 rw [hd,twinO,if_pos hn] at h;rw [←h];simp
theorem enters_twin1:Enters 116:=enters_of Tryz.func116 (by kernel_rfl) rfl
theorem twin1_any (m k:MRe) (g:Nat) (w:World) (k1:m.OK w) (k2:k.OK w) (hg:w.heap[g]? =some (.cells k.row.toArray 26 (0,0))):
  Calls Tryz.prog 116 #[m.val,.pointer (some ⟨g,0,none⟩)] w fun e w'=> e=.returned (F (eqB m.tree k.tree))∧Keeps [] w w':=by
 have HE:=gi (fun (W:World) (h:Keeps [] w W)=> equal_any m k W (k1.keep h) (k2.keep h));obtain ⟨q,hq⟩:∃ q,q=eqB m.tree k.tree:=⟨_,rfl⟩;rw [←hq] at HE ⊢;clear hq k1 k2;obtain ⟨op1,sa1,sc1,set1,ka1,kc1,kids1,mn1,mx1,mode1,n1,neg1⟩:=m;obtain ⟨op2,sa2,sc2,set2,ka2,kc2,kids2,mn2,mx2,mode2,n2,neg2⟩:=k;have hg:w.heap[g]? =some (.cells #[H J op2,M sa2 set2.length sc2,M ka2 kids2.length kc2,H J mn2,H J mx2,H J mode2,H J n2,F neg2] 26 (0,0)):=hg;obtain ⟨c0,c1,c2,c3,c4,c5,c6,c7⟩:=row_cells ((Keeps.a1 w (.cells #[H J op1,M sa1 set1.length sc1,M ka1 kids1.length kc1,H J mn1,H J mx1,H J mode1,H J n1,F neg1] 26)).h hg);simp only [MRe.val] at HE ⊢;clear hg;go_enter Tryz.func116,Tryz.ntmps116
 go_wp2_with fail
 refine Calls.mono (HE.o _ (Keeps.a1 w _)) ?_;rintro e w2 ⟨rfl,hk⟩;have HK:=gi ((Keeps.a1 w _).trans hk);clear hk;go_wp2;go_ret;exact ⟨rfl,HK.o⟩
theorem twin_any (m:MRe) (w:World) (k1:m.OK w) (hb:m.tree.bulk≤100000):
  Calls Tryz.prog 80 #[m.val] w (RulePost w m.blocks (twinR m.tree)):=by
 obtain ⟨R,hR0⟩:∃ R,R=twinR m.tree:=⟨_,rfl⟩;rw [←hR0];have HSW:=gi (fun (W:World) (h:Keeps [] w W) (i:Nat)=> swap0_any m i W (k1.keep h));have HLT:=gi k1.block_lt;obtain ⟨op,sa,sc,set,ka,kc,kids,mn,mx,mode,n,neg⟩:=m;have HBK:=gi (kids_bulk hb).1;obtain ⟨B,X,HBE,HXE,HC,HZ,hsz,HKX⟩:=pre0 w op sa sc set ka kc kids mn mx mode n neg;have HXS:=gi hsz;have HK0:=gi (Keeps.refl [] X);replace hR0:R=if op=3 then (twinO [] (MRe.trees kids)).map fun i=> swapT 3 (MRe.trees kids) i (i + 1) [] else none:=hR0;simp only [MRe.val];have hmf:∀ (fn:Fn) (first cap:Array Value) (w:World),(Instr.makeFunc fn first cap).run Tryz.prog w=.ok (.func fn first cap) w:=fun _ _ _ _=> rfl;clear hsz hb
 by_cases a1:op=3
 ·subst a1;rw [if_pos rfl] at hR0;have HR0:=gi hR0;have K1:=gi k1;have hcap:=k1.nodes.cap;have hle:=k1.nodes.le;unfold maxLen at hcap;clear hR0 k1;obtain ⟨c0,c1,c2,c3,c4,c5,c6,c7⟩:=HC.o.cells0;go_enter Tryz.func80,Tryz.ntmps80
  go_upto_region 1 with fail
  rw [←HXE.o,←HBE.o];go_wp2
  go_loopw [13] (fun i wr=> ∃ k:Nat,k≤kids.length∧i=H J k∧(twinO ((MRe.trees kids).take k) ((MRe.trees kids).drop k)).map (· + k)=twinO [] (MRe.trees kids)∧Keeps [] X wr) (fun i _=> kids.length - (intOf i).toNat)
  case atStart=> exact ⟨0,Nat.zero_le _,rfl,by rw [List.drop_zero,List.take_zero];cases twinO [] (MRe.trees kids) <;> rfl,Keeps.refl _ _⟩
  case round=>
   obtain ⟨k,hk,rfl,hl,hkp⟩:=hrel;have HL:=gi hl;have HKP:=gi hkp;obtain ⟨t0,t1,t2,t3,t4,t5,t6,t7⟩:=hkp.c8 c0 c1 c2 c3 c4 c5 c6 c7;clear hl hkp c0 c1 c2 c3 c4 c5 c6 c7
   by_cases hlt:k < kids.length
   ·have HD:=gi (trees_drop kids k hlt);obtain ⟨b,off,rfl,hbb,hx⟩:=K1.o.nodes.kid (by omega);have hak:=hx k hlt;have hok:=K1.o.kid (List.getElem_mem hlt);obtain ⟨k0,hk0⟩:∃ k0,k0=kids[k]:=⟨_,rfl⟩;rw [←hk0] at hak hok HD;have HOK:=gi hok;have HKI:=gi (show KidsIn w (some ⟨b,off,none⟩) kc (kids.take k) from ⟨K1.o.nodes.take k,fun x hx=> K1.o.kid (List.mem_of_mem_take hx)⟩);have htl:(kids.take k).length=k:=by rw [List.length_take];omega
    obtain ⟨k00,hk00⟩:∃ k00,k00=k0:=⟨_,rfl⟩;rw [←hk00] at HD HOK;have K00:=gi hk00;obtain ⟨op1,sa1,sc1,set1,ka1,kc1,kids1,mn1,mx1,mode1,n1,neg1⟩:=k0;have g:=hak.node;obtain ⟨e0,e1,e2,e3,e4,e5,e6,e7⟩:=id g;have d0:=(HKX.o.trans HKP.o).c e0;have d1:=(HKX.o.trans HKP.o).c e1;have d2:=(HKX.o.trans HKP.o).c e2;have d3:=(HKX.o.trans HKP.o).c e3;have d4:=(HKX.o.trans HKP.o).c e4;have d5:=(HKX.o.trans HKP.o).c e5;have d6:=(HKX.o.trans HKP.o).c e6;have d7:=(HKX.o.trans HKP.o).c e7;have hs1:∀ W:World,(Instr.sliceAt 24 (M (some ⟨b,off,none⟩) kids.length kc) none (some (H J k)) none).run Tryz.prog W=.ok (M (some ⟨b,off,none⟩) k kc) W:=by
     intro W;have q2:(k:Int)≤kc:=by omega
     simp [go_sem,q2]
    have htk:MRe.trees (kids.take k)=(MRe.trees kids).take k:=trees_take kids k;clear hk0 hok hak hx g e0 e1 e2 e3 e4 e5 e6 e7 hk00;go_upto_region 6 with fail
    obtain ⟨C,hCe⟩:∃ C,C=wr.heap.size:=⟨_,rfl⟩;obtain ⟨Y,hYe⟩:∃ Y,Y=wr.alloc (.cells #[H J op1,M sa1 set1.length sc1,M ka1 kids1.length kc1,H J mn1,H J mx1,H J mode1,H J n1,F neg1] 26):=⟨_,rfl⟩;have hkY:Keeps [] wr Y:=by rw [hYe];exact Keeps.a1 _ _
    have hCH:Y.heap[C]? =some (.cells #[H J op1,M sa1 set1.length sc1,M ka1 kids1.length kc1,H J mn1,H J mx1,H J mode1,H J n1,F neg1] 26 (0,0)):=by rw [hYe,hCe];exact heap_alloc_new wr _
    rw [←hYe,←hCe];have KY:=gi (HKP.o.trans hkY);have HCN:=containsFunc_any 116 #[.pointer (some ⟨C,0,none⟩)] (fun o=> eqB o k00.tree) (some ⟨b,off,none⟩) kc (kids.take k) Y enters_twin1 (HKI.o.keep (HKX.o.trans KY.o)) (fun x hx V hV=> twin1_any x k00 C V ((HKI.o.keep ((HKX.o.trans KY.o).trans hV)).all x hx) (HOK.o.keep ((HKX.o.trans KY.o).trans hV)) (by rw [K00.o];exact hV.h hCH));rw [htl,htk] at HCN;have hsome:=fun h=> twinO_at (l:=MRe.trees kids) (k:=k) HD.o h HL.o;have hstep:=fun h=> twinO_step (l:=MRe.trees kids) (k:=k) HD.o h HL.o;obtain ⟨z,hz⟩:∃ z,z=((MRe.trees kids).take k).any fun o=> eqB o k00.tree:=⟨_,rfl⟩;rw [←hz] at HCN hsome hstep;have HCN:=gi HCN;have HSO:=gi hsome;have HST:=gi hstep;obtain ⟨y0,y1,y2,y3,y4,y5,y6,y7⟩:=hkY.c8 t0 t1 t2 t3 t4 t5 t6 t7;clear hCe hYe hkY hCH hsome hstep hz htk t0 t1 t2 t3 t4 t5 t6 t7 d0 d1 d2 d3 d4 d5 d6 d7;go_wp2_with fail
    refine Calls.mono HCN.o ?_;rintro e w3 ⟨rfl,hk3⟩;have K3:=gi (KY.o.trans hk3);obtain ⟨u0,u1,u2,u3,u4,u5,u6,u7⟩:=hk3.c8 y0 y1 y2 y3 y4 y5 y6 y7;clear hk3 y0 y1 y2 y3 y4 y5 y6 y7
    cases z with
    | true=>
     have hO:=HSO.o rfl;have HRT:=gi (fun (q0:MRe) (h:q0.tree=swapT 3 (MRe.trees kids) k (k + 1) [])=> show R=some q0.tree by rw [HR0.o,hO,h];rfl);have HADD:=gi (show ∀ x∈([]:List Nat),x∈(MRe.node 3 sa sc set (some ⟨b,off,none⟩) kc kids mn mx mode n neg).blocks∨B + 2≤x from fun _ h=> by simp at h);have hw1:IntKind.i64.wrap ((k:Int) + 1)=(k:Int) + 1:=IntWalk.i64_in _ (by omega);have KC:=gi K3.o;have HS:=gi (HSW.o _ (HKX.o.trans K3.o) k hlt HBK.o);clear hO;go_wp2_with fail
     refine Calls.mono HS.o ?_;rintro e w8 ⟨q,rfl,hqt,hqo,hk8,hqf⟩;have E8:=gi hk8;have K8:=gi (KC.o.trans hk8);have QT:=gi hqt;have QO:=gi hqo;have QF:=gi hqf;obtain ⟨q0,hq0⟩:∃ q0,q0=q:=⟨_,rfl⟩;rw [←hq0] at QT QO QF;have Q0:=gi hq0;clear hqt hqo hk8 hqf hq0;obtain ⟨op9,sa9,sc9,set9,ka9,kc9,kids9,mn9,mx9,mode9,n9,neg9⟩:=q;simp only [MRe.val];obtain ⟨z0,z1,z2,z3,z4,z5,z6,z7,zf⟩:=zero_cells (K8.o.h HZ.o);clear u0 u1 u2 u3 u4 u5 u6 u7;go_wp2;have hfr:=swap_from QF.o HADD.o (Nat.le_trans HXS.o KC.o.size);rw [Q0.o] at hfr;obtain ⟨hR,hok,hke,hfr2⟩:=rule_store HBE.o HKX.o K8.o HZ.o (by rw [←Q0.o];exact QO.o) hfr HLT.o;refine rt hR ?_;exact RulePost.of_some (.node op9 sa9 sc9 set9 ka9 kc9 kids9 mn9 mx9 mode9 n9 neg9) (by rw [←Q0.o];exact HRT.o q0 QT.o) rfl hok hke hfr2
    | false=>
     have HS2:=gi (HST.o rfl);clear u0 u1 u2 u3 u4 u5 u6 u7;go_wp2;go_roundw
     case rel=> exact ⟨k + 1,by omega,by go_num,HS2.o,K3.o⟩
     case measure=> simp [intOf];omega
   ·obtain rfl:k=kids.length:=by omega
    have h0:twinO [] (MRe.trees kids)=none:=by rw [←HL.o,List.drop_of_length_le (by rw [MRe.trees_length];omega)];rfl
    have HR:=gi (show R=none by rw [HR0.o,h0];rfl);clear h0;obtain ⟨z0,z1,z2,z3,z4,z5,z6,z7,zf,HR2,HK2⟩:=nn HBE.o HKX.o HKP.o HZ.o;go_wp2;refine rt HR2.o ?_;exact RulePost.of_none HR.o rfl HK2.o
 ·have HR:=gi (show R=none from hR0.trans (if_neg a1));have hbb:(op !=3)=true:=by simpa using a1
  clear hR0 k1;obtain ⟨c0,c1,c2,c3,c4,c5,c6,c7⟩:=HC.o.cells0;go_enter Tryz.func80,Tryz.ntmps80
  go_upto_region 1 with fail
  rw [←HXE.o,←HBE.o];obtain ⟨z0,z1,z2,z3,z4,z5,z6,z7,zf,HR2,HK2⟩:=nn HBE.o HKX.o HK0.o HZ.o;go_wp2;refine rt HR2.o ?_;exact RulePost.of_none HR.o rfl HK2.o
def nums (t:Tree):List Int:=[t.op,(t.set.length:Int)] ++ (t.set.flatMap fun s=> [s.1,s.2]) ++ [t.mn,t.mx,t.mode,t.n,digitI t.neg,(t.kids.length:Int)]
def lexL:List Int→List Int→Int
 | a::r,b::s=> if a < b then -1 else if b < a then 1 else lexL r s
 | _,_=> 0
theorem lexL_zip (l m:List Int):lexL l m=lexP (l.zip m):=by
 induction l generalizing m with
 | nil=> simp [lexL,lexP]
 | cons x xs ih=>
  cases m with
  | nil=> simp [lexL,lexP]
  | cons y ys=> simp only [lexL,List.zip_cons_cons,lexP,ih]
theorem lexL_append {a b c d:List Int} (h:a.length=b.length):lexL (a ++ c) (b ++ d)=if lexL a b≠0 then lexL a b else lexL c d:=by
 rw [lexL_zip,lexL_zip,lexL_zip,List.zip_append h,lexP_append]
theorem flat2_length (l:List (Int × Int)):(l.flatMap fun s=> [s.1,s.2]).length=2 * l.length:=by
 induction l with
 | nil=> rfl
 | cons x xs ih=> simp only [List.flatMap_cons,List.length_append,List.length_cons,List.length_nil,ih];omega
theorem lexL_spans:∀ (l m:List (Int × Int)),l.length=m.length→lexL (l.flatMap fun s=> [s.1,s.2]) (m.flatMap fun s=> [s.1,s.2])=lexP (spansN l m)
 | [],[],_=> rfl
 | x::xs,y::ys,h=> by
  simp only [List.flatMap_cons,spansN];rw [lexL_append (by simp),lexP_append,lexL_spans xs ys (by simpa using h)]
  have:lexL [x.1,x.2] [y.1,y.2]=lexP (spanN x y):=by simp [lexL,lexP,spanN]
  rw [this]
 | [],y::ys,h=> by simp at h
 | x::xs,[],h=> by simp at h
theorem lexL_nums (a b:Tree):lexL (nums a) (nums b)=lexP (nodeN a b):=by
 unfold nums nodeN
 by_cases h:a.set.length=b.set.length
 ·rw [List.append_assoc,List.append_assoc,lexL_append (by simp),lexP_append,lexL_append (by rw [flat2_length,flat2_length,h]),lexP_append,lexL_spans _ _ h];have e1:lexL [a.op,(a.set.length:Int)] [b.op,(b.set.length:Int)]=lexP (headN a b):=by simp [lexL,lexP,headN]
  have e2:lexL [a.mn,a.mx,a.mode,a.n,digitI a.neg,(a.kids.length:Int)] [b.mn,b.mx,b.mode,b.n,digitI b.neg,(b.kids.length:Int)]=lexP (pairsN a b):=by simp [lexL,lexP,pairsN]
  rw [e1,e2]
 ·have h1:lexP (headN a b)≠0:=fun h0=> h (by
   have:=lexP_zero h0 ((a.set.length:Int),(b.set.length:Int)) (by simp [headN])
   simp only at this
   omega)
  rw [List.append_assoc,List.append_assoc,lexL_append (by simp),lexP_append];have e1:lexL [a.op,(a.set.length:Int)] [b.op,(b.set.length:Int)]=lexP (headN a b):=by simp [lexL,lexP,headN]
  rw [e1,if_pos h1,if_pos h1]
theorem nums_length (t:Tree):(nums t).length=8 + 2 * t.set.length:=by unfold nums;simp only [List.length_append,flat2_length,List.length_cons,List.length_nil];omega
theorem news_drew (w:World) (xs:List Value) (t:Nat):∀ j u,xs[j]? =some u→(w.alloc (.cells xs.toArray t)).drew.cell? ((⟨w.heap.size,0,none⟩:Addr).add j)=some u:=news_row w xs t
theorem At8.keepR {S:List Nat} {w w':World} {b o:Nat} {m:MRe} (h:At8 w b o m) (k:Keeps S w w') (hs:b ∉ S):At8 w' b o m:=fun j hj=> k.cell (h j hj) hs
theorem lt_of_cell_b {w:World} {b o:Nat} {v:Value} (h:w.cell? ⟨b,o,none⟩=some v):b < w.heap.size:=World.block_lt_of_cell? w _ h
theorem infoInt:(Tryz.prog.info? 3).map (fun i=> (i.zero,i.size,i.bytes))=some (some (H J 0),1,8):=by kernel_rfl
theorem rorder_any (m:MRe) (w:World) (k1:m.OK w) (hb:m.tree.bulk≤100000):
  Calls Tryz.prog 57 #[m.val] w fun e w'=> ∃ a c,e=.returned (sv a (nums m.tree).length c)∧SliceAt w' 3 1 a (nums m.tree).length c ((nums m.tree).map (H J))∧Keeps [] w w':=by
 obtain ⟨i0,hi,hz0,hz1,hz2⟩:=info_parts infoInt;have Hi:=gi hi;have Hz0:=gi hz0;have Hz1:=gi hz1;have Hz2:=gi hz2;obtain ⟨op,sa,sc,set,ka,kc,kids,mn,mx,mode,n,neg⟩:=m;obtain ⟨hbl,hbs,-⟩:=kids_bulk hb;have hsp:=k1.spans;have hcap:=hsp.cap;have hle:=hsp.le;have hkc:=k1.nodes.cap;have hkl:=k1.nodes.le;unfold maxLen at hcap hkc;have HS:=gi hsp;have hN:nums (MRe.tree (.node op sa sc set ka kc kids mn mx mode n neg))=[op,(set.length:Int)] ++ (set.flatMap fun s=> [s.1,s.2]) ++ [mn,mx,mode,n,digitI neg,(kids.length:Int)]:=by simp [nums,MRe.tree,Tree.op,Tree.set,Tree.mn,Tree.mx,Tree.mode,Tree.n,Tree.neg,Tree.kids,MRe.trees_length]
 have hNl:=nums_length (MRe.tree (.node op sa sc set ka kc kids mn mx mode n neg));have hNs:(MRe.tree (.node op sa sc set ka kc kids mn mx mode n neg)).set=set:=rfl;rw [hNs] at hNl;rw [hN] at hNl ⊢;rw [hNl];simp only [MRe.val];have hbx:=box1 w (.node op sa sc set ka kc kids mn mx mode n neg) 26;obtain ⟨B,hBe⟩:∃ B,B=w.heap.size:=⟨_,rfl⟩;clear hi hz0 hz1 hz2 k1 hb hsp hN hNs hNl
 cases neg
 ·go_enter Tryz.func57,Tryz.ntmps57
  go_upto_region 5 with fail
  simp only [MRe.row] at hbx;have kX:=Keeps.a1 (w.alloc (.cells #[H J op,M sa set.length sc,M ka kids.length kc,H J mn,H J mx,H J mode,H J n,F false] 26)) (.cells #[H J op,H J set.length] 3);have hbX:=hbx.keep kX;have slX:SliceAt ((w.alloc (.cells #[H J op,M sa set.length sc,M ka kids.length kc,H J mn,H J mx,H J mode,H J n,F false] 26)).alloc (.cells #[H J op,H J set.length] 3)) 3 1 (some (w.heap.size + 1)) 2 2 [H J op,H J set.length]:=
   SliceAt.of_row (cur:=#[H J op,H J set.length]) (heap_alloc2_new w _ _) rfl (by unfold maxLen;omega)
  have kwX:=Keeps.a2 w (.cells #[H J op,M sa set.length sc,M ka kids.length kc,H J mn,H J mx,H J mode,H J n,F false] 26) (.cells #[H J op,H J set.length] 3);rw [←hBe] at hbX slX ⊢;have HBX:=gi hbX;have HSL:=gi slX;have HKX:=gi kwX;have HBE:=gi hBe;clear hbX slX kwX kX hbx hBe
  generalize (w.alloc (.cells #[H J op,M sa set.length sc,M ka kids.length kc,H J mn,H J mx,H J mode,H J n,F false] 26)).alloc (.cells #[H J op,H J set.length] 3)=X at *
  go_wp2
  go_loopw [4,5] (fun v i wr=> ∃ (k:Nat) (g c:Nat),k≤set.length∧i=H J k∧v=M (some ⟨g,0,none⟩) (2 + 2 * k) c∧SliceAt wr 3 1 (some g) (2 + 2 * k) c ([H J op,H J set.length] ++ flatP (set.take k))∧B + 1≤g∧At8 wr B 0 (.node op sa sc set ka kc kids mn mx mode n false)∧Keeps [] w wr) (fun _ i _=> set.length - (intOf i).toNat)
  case atStart=> exact ⟨0,B + 1,2,Nat.zero_le _,rfl,rfl,HSL.o,Nat.le_refl _,HBX.o,HKX.o⟩
  case round=>
   obtain ⟨k,g,c,hk,rfl,rfl,hsl,hgB,h8,hkp⟩:=hrel;have HSR:=gi hsl;have H8:=gi h8;have HKP:=gi hkp;have hwb:=HBE.o;have hgw:w.heap.size≤g:=by omega
   obtain ⟨x0,x1,x2,x3,x4,x5,x6,x7⟩:=h8.cells0;clear hwb
   by_cases hlt:k < set.length
   ·obtain ⟨b,off,rfl,hbb,hc⟩:=(HS.o.keep hkp).at_ (by omega);obtain ⟨c0,c1⟩:=hc k hlt;have hft:set.take (k + 1)=set.take k ++ [set[k]]:=List.take_succ_eq_append_getElem hlt;have hbw:=HS.o.block_lt;have hbg:b≠g:=fun h=> by
     have h1:=hbw b (by unfold blockIf;rw [if_neg (by omega)];simp);omega
    generalize set[k]=s at *
    obtain ⟨p,q⟩:=s;simp only at c0 c1;have HFT:=gi hft;have hi1:(k:Int) < (set.length:Int):=by omega
    have hi0:(0:Int)≤(k:Int):=by omega
    have hw0:IntKind.i64.wrap (k:Int)=(k:Int):=IntWalk.i64_in _ (by omega);have hBg:¬ B=g:=by omega
    clear hc hft hbw hsl h8 hkp;go_wp2
    go_region_held3 (fun w'=> w'.cell? ⟨B,1,none⟩=some (M (some ⟨b,off,none⟩) set.length sc)∧w'.cell? ⟨b,off + k * 2,none⟩=some (H J p)∧w'.cell? ⟨b,off + k * 2 + 1,none⟩=some (H J q))
     (with_reducible first | exact ⟨((Keeps.refl [] wr).drew).c x1,((Keeps.refl [] wr).drew).c c0,((Keeps.refl [] wr).drew).c c1⟩ | exact ⟨((Keeps.a1 wr _).drew).c x1,((Keeps.a1 wr _).drew).c c0,((Keeps.a1 wr _).drew).c c1⟩ | exact ⟨E1.o.cell x1 (by simp;exact hBg),E1.o.cell c0 (by simp;exact hbg),E1.o.cell c1 (by simp;exact hbg)⟩ | fail)
     (first
      | (refine stepd_append_sl rfl (.tmp 21) (.tmp 34) 22 rfl 3 i0 _ 1 8 Tryz.underlying22 Hi.o Hz0.o Hz1.o Hz2.o rfl (by decide) (some g) (2 + 2 * k) c _ rfl (HSR.o.keep ((Keeps.a1 wr _).drew) (by simp)) ⟨wr.heap.size,0,none⟩ 2 2 [H J p,H J q] rfl rfl (news_drew wr [H J p,H J q] 3) (by intro u hu;simp at hu;rcases hu with rfl | rfl <;> rfl) (by decide) (by omega) (by omega) ?_;intro g3 c3 w3 hsl3 hk3 hg3;have E1:=gi (show Keeps [g] wr w3 from ((Keeps.a1 wr _).drew.mono (by simp)).trans (by simpa using hk3));have HS3:=gi hsl3;have HG3:=gi hg3;clear hsl3 hk3 hg3))
    have hs1:=E1.o.size;have hgw3:B + 1≤g3:=by
     rcases HG3.o with h | h
     ·cases h;exact hgB
     ·have h2:wr.heap.size≤(wr.alloc (.cells #[H J p,H J q] 3)).drew.heap.size:=(Keeps.a1 wr _).drew.size;have h3:=HKP.o.size;have h4:=HBE.o;have h5:=lt_of_cell_b x0;omega
    have h83:=At8.keepR H8.o E1.o (by simp;exact hBg);have hkp3:=HKP.o.after E1.o (by intro x hx;simp at hx;subst hx;exact .inr hgw);have hsl3:SliceAt w3 3 1 (some g3) (2 + 2 * (k + 1)) c3 ([H J op,H J set.length] ++ flatP (set.take (k + 1))):=by
     rw [HFT.o,flatP_append,←List.append_assoc,show 2 + 2 * (k + 1)=2 + 2 * k + 2 by omega];exact HS3.o
    have H83:=gi h83;have HKP3:=gi hkp3;have HSL3:=gi hsl3;clear h83 hkp3 hsl3 x0 x1 x2 x3 x4 x5 x6 x7 c0 c1 E1 hs1;go_wp2;go_roundw
    case rel=> exact ⟨k + 1,g3,c3,by omega,by go_num,by rw [show 2 + 2 * (k + 1)=2 + 2 * k + 2 by omega],HSL3.o,hgw3,H83.o,HKP3.o⟩
    case measure=> simp [intOf];omega
   ·obtain rfl:k=set.length:=by omega
    rw [List.take_length] at HSR;clear hsl h8 hkp
    go_wp2_with (at_builtin;refine wpList_append_sl rfl (.tmp 36) (.tmp 49) 22 rfl 3 i0 _ 1 8 Tryz.underlying22 Hi.o Hz0.o Hz1.o Hz2.o rfl (by decide) (some g) (2 + 2 * set.length) c _ rfl (HSR.o.alloc _) ⟨wr.heap.size,0,none⟩ 6 6 [H J mn,H J mx,H J mode,H J n,H J 0,H J kids.length] rfl rfl (news_row' _ _ _ _ rfl) (by intro u hu;simp at hu;rcases hu with rfl | rfl | rfl | rfl | rfl | rfl <;> rfl) (by decide) (by omega) (by omega) ?hk)
    case hk=>
     intro g4 c4 w4 hsl4 hk4 hg4;have hkp4:=(HKP.o.alloc _).after hk4 (by intro x hx;simp at hx;subst hx;exact .inr hgw);have HSL4:=gi hsl4;have HKP4:=gi hkp4;clear hsl4 hk4 hg4 hkp4 x0 x1 x2 x3 x4 x5 x6 x7;go_wp2;go_ret;refine ⟨some g4,c4,by rw [show 8 + 2 * set.length=2 + 2 * set.length + 6 by omega];rfl,?_,HKP4.o⟩;have h:=HSL4.o;rw [show 2 + 2 * set.length + 6=8 + 2 * set.length by omega] at h
     simpa [flatP,List.map_flatMap,digitI] using h
 ·go_enter Tryz.func57,Tryz.ntmps57
  go_upto_region 5 with fail
  simp only [MRe.row] at hbx;have kX:=Keeps.a1 (w.alloc (.cells #[H J op,M sa set.length sc,M ka kids.length kc,H J mn,H J mx,H J mode,H J n,F true] 26)) (.cells #[H J op,H J set.length] 3);have hbX:=hbx.keep kX;have slX:SliceAt ((w.alloc (.cells #[H J op,M sa set.length sc,M ka kids.length kc,H J mn,H J mx,H J mode,H J n,F true] 26)).alloc (.cells #[H J op,H J set.length] 3)) 3 1 (some (w.heap.size + 1)) 2 2 [H J op,H J set.length]:=
   SliceAt.of_row (cur:=#[H J op,H J set.length]) (heap_alloc2_new w _ _) rfl (by unfold maxLen;omega)
  have kwX:=Keeps.a2 w (.cells #[H J op,M sa set.length sc,M ka kids.length kc,H J mn,H J mx,H J mode,H J n,F true] 26) (.cells #[H J op,H J set.length] 3);rw [←hBe] at hbX slX ⊢;have HBX:=gi hbX;have HSL:=gi slX;have HKX:=gi kwX;have HBE:=gi hBe;clear hbX slX kwX kX hbx hBe
  generalize (w.alloc (.cells #[H J op,M sa set.length sc,M ka kids.length kc,H J mn,H J mx,H J mode,H J n,F true] 26)).alloc (.cells #[H J op,H J set.length] 3)=X at *
  go_wp2
  go_loopw [4,5] (fun v i wr=> ∃ (k:Nat) (g c:Nat),k≤set.length∧i=H J k∧v=M (some ⟨g,0,none⟩) (2 + 2 * k) c∧SliceAt wr 3 1 (some g) (2 + 2 * k) c ([H J op,H J set.length] ++ flatP (set.take k))∧B + 1≤g∧At8 wr B 0 (.node op sa sc set ka kc kids mn mx mode n true)∧Keeps [] w wr) (fun _ i _=> set.length - (intOf i).toNat)
  case atStart=> exact ⟨0,B + 1,2,Nat.zero_le _,rfl,rfl,HSL.o,Nat.le_refl _,HBX.o,HKX.o⟩
  case round=>
   obtain ⟨k,g,c,hk,rfl,rfl,hsl,hgB,h8,hkp⟩:=hrel;have HSR:=gi hsl;have H8:=gi h8;have HKP:=gi hkp;have hwb:=HBE.o;have hgw:w.heap.size≤g:=by omega
   obtain ⟨x0,x1,x2,x3,x4,x5,x6,x7⟩:=h8.cells0;clear hwb
   by_cases hlt:k < set.length
   ·obtain ⟨b,off,rfl,hbb,hc⟩:=(HS.o.keep hkp).at_ (by omega);obtain ⟨c0,c1⟩:=hc k hlt;have hft:set.take (k + 1)=set.take k ++ [set[k]]:=List.take_succ_eq_append_getElem hlt;have hbw:=HS.o.block_lt;have hbg:b≠g:=fun h=> by
     have h1:=hbw b (by unfold blockIf;rw [if_neg (by omega)];simp);omega
    generalize set[k]=s at *
    obtain ⟨p,q⟩:=s;simp only at c0 c1;have HFT:=gi hft;have hi1:(k:Int) < (set.length:Int):=by omega
    have hi0:(0:Int)≤(k:Int):=by omega
    have hw0:IntKind.i64.wrap (k:Int)=(k:Int):=IntWalk.i64_in _ (by omega);have hBg:¬ B=g:=by omega
    clear hc hft hbw hsl h8 hkp;go_wp2
    go_region_held3 (fun w'=> w'.cell? ⟨B,1,none⟩=some (M (some ⟨b,off,none⟩) set.length sc)∧w'.cell? ⟨b,off + k * 2,none⟩=some (H J p)∧w'.cell? ⟨b,off + k * 2 + 1,none⟩=some (H J q))
     (with_reducible first | exact ⟨((Keeps.refl [] wr).drew).c x1,((Keeps.refl [] wr).drew).c c0,((Keeps.refl [] wr).drew).c c1⟩ | exact ⟨((Keeps.a1 wr _).drew).c x1,((Keeps.a1 wr _).drew).c c0,((Keeps.a1 wr _).drew).c c1⟩ | exact ⟨E1.o.cell x1 (by simp;exact hBg),E1.o.cell c0 (by simp;exact hbg),E1.o.cell c1 (by simp;exact hbg)⟩ | fail)
     (first
      | (refine stepd_append_sl rfl (.tmp 21) (.tmp 34) 22 rfl 3 i0 _ 1 8 Tryz.underlying22 Hi.o Hz0.o Hz1.o Hz2.o rfl (by decide) (some g) (2 + 2 * k) c _ rfl (HSR.o.keep ((Keeps.a1 wr _).drew) (by simp)) ⟨wr.heap.size,0,none⟩ 2 2 [H J p,H J q] rfl rfl (news_drew wr [H J p,H J q] 3) (by intro u hu;simp at hu;rcases hu with rfl | rfl <;> rfl) (by decide) (by omega) (by omega) ?_;intro g3 c3 w3 hsl3 hk3 hg3;have E1:=gi (show Keeps [g] wr w3 from ((Keeps.a1 wr _).drew.mono (by simp)).trans (by simpa using hk3));have HS3:=gi hsl3;have HG3:=gi hg3;clear hsl3 hk3 hg3))
    have hs1:=E1.o.size;have hgw3:B + 1≤g3:=by
     rcases HG3.o with h | h
     ·cases h;exact hgB
     ·have h2:wr.heap.size≤(wr.alloc (.cells #[H J p,H J q] 3)).drew.heap.size:=(Keeps.a1 wr _).drew.size;have h3:=HKP.o.size;have h4:=HBE.o;have h5:=lt_of_cell_b x0;omega
    have h83:=At8.keepR H8.o E1.o (by simp;exact hBg);have hkp3:=HKP.o.after E1.o (by intro x hx;simp at hx;subst hx;exact .inr hgw);have hsl3:SliceAt w3 3 1 (some g3) (2 + 2 * (k + 1)) c3 ([H J op,H J set.length] ++ flatP (set.take (k + 1))):=by
     rw [HFT.o,flatP_append,←List.append_assoc,show 2 + 2 * (k + 1)=2 + 2 * k + 2 by omega];exact HS3.o
    have H83:=gi h83;have HKP3:=gi hkp3;have HSL3:=gi hsl3;clear h83 hkp3 hsl3 x0 x1 x2 x3 x4 x5 x6 x7 c0 c1 E1 hs1;go_wp2;go_roundw
    case rel=> exact ⟨k + 1,g3,c3,by omega,by go_num,by rw [show 2 + 2 * (k + 1)=2 + 2 * k + 2 by omega],HSL3.o,hgw3,H83.o,HKP3.o⟩
    case measure=> simp [intOf];omega
   ·obtain rfl:k=set.length:=by omega
    rw [List.take_length] at HSR;clear hsl h8 hkp
    go_wp2_with (at_builtin;refine wpList_append_sl rfl (.tmp 36) (.tmp 49) 22 rfl 3 i0 _ 1 8 Tryz.underlying22 Hi.o Hz0.o Hz1.o Hz2.o rfl (by decide) (some g) (2 + 2 * set.length) c _ rfl (HSR.o.alloc _) ⟨wr.heap.size,0,none⟩ 6 6 [H J mn,H J mx,H J mode,H J n,H J 1,H J kids.length] rfl rfl (news_row' _ _ _ _ rfl) (by intro u hu;simp at hu;rcases hu with rfl | rfl | rfl | rfl | rfl | rfl <;> rfl) (by decide) (by omega) (by omega) ?hk)
    case hk=>
     intro g4 c4 w4 hsl4 hk4 hg4;have hkp4:=(HKP.o.alloc _).after hk4 (by intro x hx;simp at hx;subst hx;exact .inr hgw);have HSL4:=gi hsl4;have HKP4:=gi hkp4;clear hsl4 hk4 hg4 hkp4 x0 x1 x2 x3 x4 x5 x6 x7;go_wp2;go_ret;refine ⟨some g4,c4,by rw [show 8 + 2 * set.length=2 + 2 * set.length + 6 by omega];rfl,?_,HKP4.o⟩;have h:=HSL4.o;rw [show 2 + 2 * set.length + 6=8 + 2 * set.length by omega] at h
     simpa [flatP,List.map_flatMap,digitI] using h
end Go.Proofs.YtjnlkjlbejelgaaGreat
