/- Part 7 of the proof. No condition: every lemma says its own. -/
import Derived.Defers
import Derived.Recover
import Derived.BigQuiet
import Derived.Deep.RegionHeld3
import Derived.Maps.RangeWalk
import Derived.Test.YtjnlkjlbejelgaaGreatLaf
import Derived.Test.YtjnlkjlbejelgaaGreatLaa
namespace Go.Proofs.YtjnlkjlbejelgaaGreat
open Go.RowKit
open Go.Value renaming int→H,slice→M,bool→F
open Go.IntKind renaming i64→J
set_option maxRecDepth 100000
set_option maxHeartbeats 16000000
theorem catch_idle (p q:Addr) (w:World):
  CallsD Tryz.prog 44 #[.pointer (some p),.pointer (some q)] .returning w fun e u' w'=> e=.returned (.tuple #[])∧u'=.returning∧w'=w:=by
 refine callsD_of_wpS Tryz.func44 rfl fun c₀ cs hu=> ?_
 apply wpS_seq
 apply wpS_region
 simp [wpOpsS,go_sem,recoverD,hu,Tryz.ntmps44,Exit.thenS];refine wpS_cond (t:=false) (by simp [Act.eval,Array.replicate]) ?_;simp only [Bool.false_eq_true,if_false];refine wpS_of_wp (wp_skip ?_)
 cases c₀
 simp_all [bodyPostS,results,Tryz.results44]
theorem results_row_cell {P:Program} {fn:Func} {p q:Tmp} {ty ty2:TypeId} (h:fn.results=#[.cell p ty,.cell q ty2]) (tmps:Array Value) (w:World) (g:Nat) (t:TypeId) (cs:Array Value) (fr:Nat × Nat) (d:TypeDesc)
  (hp:tmps.getD p undef=.pointer (some ⟨g,0,none⟩)) (hg:w.heap[g]? =some (.cells cs t fr))
  (hu:P.underlying ty=some d) (hd:(match d with | .struct _ | .array _ _=> true | _=> false)=true) (hi:(P.info? ty).map (·.size)=some cs.size)
  (a:Addr) (v:Value) (hq:tmps.getD q undef=.pointer (some a)) (hv:(loadVar ty2 a).run P w=.ok v w):
  (results fn tmps).run P w=.ok (.tuple #[.agg cs,v]) w:=by
 have hp':tmps[p]?.getD undef=.pointer (some ⟨g,0,none⟩):=by simpa using hp
 have hq':tmps[q]?.getD undef=.pointer (some a):=by simpa using hq
 simp [results,h,hp',hq',asAddr,run_loadVar_row w g t ty cs fr d hg hu hd hi,hv]
theorem run_loadVar_bool {w:World} {a:Addr} {b:Bool} (h:w.cell? a=some (F b)):(loadVar 4 a).run Tryz.prog w=.ok (F b) w:=by
 simp [go_sem,h]
def overlapP:List (Int × Int)→List (Int × Int)→Bool
 | [],_=> false
 | _::_,[]=> false
 | a::ar,b::br=> if a.2 < b.1 then overlapP ar (b::br) else if b.2 < a.1 then overlapP (a::ar) br else true
termination_by a b=> a.length + b.length
def lenOf:Value→Nat
 | M _ n _=> n
 | _=> 0
theorem SpansIn.tail {w:World} {b off sc:Nat} {x:Int × Int} {l:List (Int × Int)} (h:SpansIn w (some ⟨b,off,none⟩) sc (x::l)):SpansIn w (if sc=1 then some ⟨b,off,none⟩ else some ⟨b,off + 2,none⟩) (sc - 1) l:=by
 have hle:=h.le;have hcap:=h.cap;simp only [List.length_cons] at hle;refine ⟨by omega,by omega,by split <;> simp,fun h0=> ?_⟩;rw [if_neg (by omega)];obtain ⟨b',off',h1,hb,h2⟩:=h.at_ (by omega)
 cases h1
 refine ⟨b,off + 2,rfl,hb,fun i hi=> ?_⟩
 have:=h2 (i + 1) (by simp only [List.length_cons];omega)
 rw [show off + 2 + i * 2=off + (i + 1) * 2 by omega];exact this
theorem SpansIn.head {w:World} {sa:Option Addr} {sc:Nat} {x:Int × Int} {l:List (Int × Int)} (h:SpansIn w sa sc (x::l)):∃ b off,sa=some ⟨b,off,none⟩∧b < w.heap.size∧w.cell? ⟨b,off,none⟩=some (H J x.1)∧w.cell? ⟨b,off + 1,none⟩=some (H J x.2):=by
 obtain ⟨b,off,h1,hb,h2⟩:=h.at_ (by have:=h.le;simp only [List.length_cons] at this;omega)
 have:=h2 0 (by simp)
 rw [Nat.zero_mul,Nat.add_zero] at this;exact ⟨b,off,h1,hb,this⟩
theorem overlap_any (aa ba:Option Addr) (ac bc:Nat) (A B:List (Int × Int)) (w:World) (ha:SpansIn w aa ac A) (hb:SpansIn w ba bc B):
  Calls Tryz.prog 146 #[M aa A.length ac,M ba B.length bc] w fun e w'=> e=.returned (F (overlapP A B))∧Keeps [] w w':=by
 have HA:=gi ha;have HB:=gi hb;clear ha hb;go_enter Tryz.func146,Tryz.ntmps146
 go_wp2
 go_loopw [0,1] (fun x y wr=> ∃ (aa' ba':Option Addr) (ac' bc':Nat) (A' B':List (Int × Int)),x=M aa' A'.length ac'∧y=M ba' B'.length bc'∧SpansIn wr aa' ac' A'∧SpansIn wr ba' bc' B'∧overlapP A' B'=overlapP A B∧Keeps [] w wr) (fun x y _=> lenOf x + lenOf y)
 case atStart=> exact ⟨aa,ba,ac,bc,A,B,rfl,rfl,HA.o,HB.o,rfl,Keeps.refl _ _⟩
 case round=>
  obtain ⟨aa',ba',ac',bc',A',B',rfl,rfl,hA,hB,ho,hk⟩:=hrel;have HK:=gi hk;have HAC:=gi hA.cap;have HBC:=gi hB.cap;have HO:=gi ho;clear hk ho
  cases A' with
  | nil=>
   have HP:=gi (show overlapP A B=false by rw [←HO.o,overlapP]);clear hA hB;go_wp2;go_ret;exact ⟨by rw [HP.o];rfl,HK.o⟩
  | cons p A'=>
   cases B' with
   | nil=>
    have HP:=gi (show overlapP A B=false by rw [←HO.o,overlapP]);have hq:(0:Int) < ((p::A').length:Int):=by simp only [List.length_cons];omega
    clear hA hB;go_wp2;go_ret;exact ⟨by rw [HP.o];rfl,HK.o⟩
   | cons q B'=>
    obtain ⟨b1,o1,rfl,hb1,p0,p1⟩:=hA.head;obtain ⟨b2,o2,rfl,hb2,q0,q1⟩:=hB.head;have HA':=gi hA;have HB':=gi hB;have HTA:=gi hA.tail;have HTB:=gi hB.tail;have hla:=hA.le;have hlb:=hB.le;have hca:=hA.cap;have hcb:=hB.cap;unfold maxLen at hca hcb;obtain ⟨p0',p1'⟩:=p;obtain ⟨q0',q1'⟩:=q;simp only at p0 p1 q0 q1;obtain ⟨n,hn⟩:∃ n,n=((p0',p1')::A').length:=⟨_,rfl⟩;obtain ⟨m,hm⟩:∃ m,m=((q0',q1')::B').length:=⟨_,rfl⟩;have hn1:A'.length=n - 1:=by rw [hn];simp
    have hm1:B'.length=m - 1:=by rw [hm];simp
    rw [←hn] at hla ⊢;rw [←hm] at hlb ⊢;have hn0:0 < n:=by rw [hn];simp
    have hm0:0 < m:=by rw [hm];simp
    have hn0i:(0:Int) < (n:Int):=by omega
    have hm0i:(0:Int) < (m:Int):=by omega
    have hs1:∀ W:World,(Instr.sliceAt 23 (M (some ⟨b1,o1,none⟩) n ac') (some (H J 1)) none none).run Tryz.prog W=.ok (M (if ac'=1 then some ⟨b1,o1,none⟩ else some ⟨b1,o1 + 2,none⟩) (n - 1) (ac' - 1)) W:=by
     intro W;have q1:(1:Int)≤n:=by omega
     by_cases q2:ac'=1
     ·subst q2;simp [go_sem,q1]
     ·simp [go_sem,q1,q2]
    have hs2:∀ W:World,(Instr.sliceAt 23 (M (some ⟨b2,o2,none⟩) m bc') (some (H J 1)) none none).run Tryz.prog W=.ok (M (if bc'=1 then some ⟨b2,o2,none⟩ else some ⟨b2,o2 + 2,none⟩) (m - 1) (bc' - 1)) W:=by
     intro W;have q1:(1:Int)≤m:=by omega
     by_cases q2:bc'=1
     ·subst q2;simp [go_sem,q1]
     ·simp [go_sem,q1,q2]
    have HN1:=gi hn1;have HM1:=gi hm1;have HN:=gi hn;have HM:=gi hm;clear hA hB hn hm hn1 hm1 hla hlb
    by_cases h1:p1' < q0'
    ·have HP:=gi (show overlapP A' ((q0',q1')::B')=overlapP A B by rw [←HO.o,overlapP,if_pos h1]);clear HO;go_wp2
     go_quiet (fail)
     go_wp2;go_roundw
     case rel=> exact ⟨_,_,_,_,A',(q0',q1')::B',by rw [HN1.o],by rw [HM.o],HTA.o.keep ((Keeps.refl [] wr).drewN _),HB'.o.keep ((Keeps.refl [] wr).drewN _),HP.o,HK.o.drewN _⟩
     case measure=> simp only [lenOf];omega
    ·by_cases h2:q1' < p0'
     ·have HP:=gi (show overlapP ((p0',p1')::A') B'=overlapP A B by rw [←HO.o,overlapP,if_neg h1,if_pos h2]);clear HO;go_wp2
      go_quiet (fail)
      go_wp2
      go_quiet (fail)
      go_wp2;go_roundw
      case rel=> exact ⟨_,_,_,_,(p0',p1')::A',B',by rw [HN.o],by rw [HM1.o],HA'.o.keep ((Keeps.refl [] wr).drewN _),HTB.o.keep ((Keeps.refl [] wr).drewN _),HP.o,HK.o.drewN _⟩
      case measure=> simp only [lenOf];omega
     ·have HP:=gi (show overlapP A B=true by rw [←HO.o,overlapP,if_neg h1,if_neg h2]);clear HO;go_wp2
      go_quiet (fail)
      go_wp2
      go_quiet (fail)
      go_wp2;go_ret;exact ⟨by rw [HP.o];rfl,(HK.o.drewN _).drewN _⟩
mutual
def beginsT (S:List (Int × Int)):Tree→Bool
 | .node op set kids _ _ _ _ _=>
  if op=1 then overlapP set S
  else if op=6 then decide (0 < S.length)
  else if op=2 then beginsCat S kids
  else if op=3∨op=10∨op=4∨op=5∨op=9 then beginsAny S kids
  else false
def beginsCat (S:List (Int × Int)):List Tree→Bool
 | []=> false
 | k::ks=> beginsT S k || (nullP k && beginsCat S ks)
def beginsAny (S:List (Int × Int)):List Tree→Bool
 | []=> false
 | k::ks=> beginsT S k || beginsAny S ks
end
theorem beginsAny_any (S:List (Int × Int)) (l:List Tree):l.any (beginsT S)=beginsAny S l:=by
 induction l with
 | nil=> rfl
 | cons x xs ih=> simp only [List.any_cons,beginsAny,ih]
theorem enters_begins1:Enters 147:=enters_of Tryz.func147 (by kernel_rfl) rfl
theorem begins1_of (m:MRe) (b:Bool) (g:Nat) (sa:Option Addr) (n sc:Nat) (w:World) (hg:w.cell? ⟨g,0,none⟩=some (M sa n sc)) (h:∀ W,Keeps [] w W→Calls Tryz.prog 130 #[m.val,M sa n sc] W fun e w'=> e=.returned (F b)∧Keeps [] W w'):
  Calls Tryz.prog 147 #[m.val,.pointer (some ⟨g,0,none⟩)] w fun e w'=> e=.returned (F b)∧Keeps [] w w':=by
 have HH:=gi h;clear h;obtain ⟨op1,sa1,sc1,set1,ka1,kc1,kids1,mn1,mx1,mode1,n1,neg1⟩:=m;simp only [MRe.val] at HH ⊢;have hg':=(Keeps.a1 w (.cells #[H J op1,M sa1 set1.length sc1,M ka1 kids1.length kc1,H J mn1,H J mx1,H J mode1,H J n1,F neg1] 26)).c hg;go_enter Tryz.func147,Tryz.ntmps147
 go_wp2_with fail
 refine Calls.mono (HH.o _ (Keeps.a1 w _)) ?_;rintro e w2 ⟨rfl,hk⟩;have HK:=gi ((Keeps.a1 w _).trans hk);clear hk;go_wp2;go_ret;exact ⟨rfl,HK.o⟩
theorem begins_any (sa':Option Addr) (sc':Nat) (S:List (Int × Int)) (m:MRe):∀ (w:World),m.OK w→SpansIn w sa' sc' S→
  Calls Tryz.prog 130 #[m.val,M sa' S.length sc'] w fun e w'=> e=.returned (F (beginsT S m.tree))∧Keeps [] w w':=by
 induction m using MRe.induct with
 | h op sa sc set ka kc kids mn mx mode n neg ih=>
  intro w k1 hS;have hT:beginsT S (MRe.node op sa sc set ka kc kids mn mx mode n neg).tree=beginsT S (.node op set (MRe.trees kids) mn mx mode n neg):=rfl;rw [hT];have HI:=gi (fun k (hk:k∈kids) W (h:Keeps [] w W)=> ih k hk W ((k1.kid hk).keep h) (hS.keep h));have HK:=gi k1.kids;have HSP:=gi k1.spans;have HS:=gi hS;have hcap:=k1.nodes.cap;have hle:=k1.nodes.le;unfold maxLen at hcap;have HX:=gi (Keeps.a2 w (.cells #[H J op,M sa set.length sc,M ka kids.length kc,H J mn,H J mx,H J mode,H J n,F neg] 26) (.cells #[M sa' S.length sc'] 23));clear ih k1 hT hS;simp only [MRe.val]
  by_cases h1:op=1
  ·have hR:beginsT S (.node op set (MRe.trees kids) mn mx mode n neg)=overlapP set S:=by rw [beginsT,if_pos h1]
   rw [hR];subst h1;clear hR;go_enter Tryz.func130,Tryz.ntmps130
   go_wp2_with fail
   refine Calls.mono (overlap_any sa sa' sc sc' set S _ (HSP.o.keep HX.o) (HS.o.keep HX.o)) ?_;rintro e w2 ⟨rfl,hk⟩;have HK2:=gi (HX.o.trans hk);clear hk;go_wp2;go_ret;exact ⟨rfl,HK2.o⟩
  ·by_cases h6:op=6
   ·have hR:beginsT S (.node op set (MRe.trees kids) mn mx mode n neg)=decide (0 < S.length):=by rw [beginsT,if_neg h1,if_pos h6]
    rw [hR];subst h6;clear hR
    by_cases h0:0 < S.length
    ·have h0i:(0:Int) < (S.length:Int):=by omega
     go_enter Tryz.func130,Tryz.ntmps130
     go_wp2;go_ret;exact ⟨by simp [h0],HX.o⟩
    ·have h0i:S.length=0:=by omega
     go_enter Tryz.func130,Tryz.ntmps130
     go_wp2;go_ret;exact ⟨by simp [h0],Keeps.a2 w _ _⟩
   ·by_cases h2:op=2
    ·have hR:beginsT S (.node op set (MRe.trees kids) mn mx mode n neg)=beginsCat S (MRe.trees kids):=by rw [beginsT,if_neg h1,if_neg h6,if_pos h2]
     rw [hR];subst h2;clear hR;obtain ⟨B,hBe⟩:∃ B,B=w.heap.size:=⟨_,rfl⟩;go_enter Tryz.func130,Tryz.ntmps130
     go_wp2;have c0:((w.alloc (.cells #[H J 2,M sa set.length sc,M ka kids.length kc,H J mn,H J mx,H J mode,H J n,F neg] 26)).alloc (.cells #[M sa' S.length sc'] 23)).cell? ⟨B + 1,0,none⟩=some (M sa' S.length sc'):=by rw [hBe];simp
     rw [←hBe]
     generalize (w.alloc (.cells #[H J 2,M sa set.length sc,M ka kids.length kc,H J mn,H J mx,H J mode,H J n,F neg] 26)).alloc (.cells #[M sa' S.length sc'] 23)=X at *
     have HBE:=gi hBe;clear hBe
     go_loopw [25] (fun i wr=> ∃ k:Nat,k≤kids.length∧i=H J k∧beginsCat S ((MRe.trees kids).drop k)=beginsCat S (MRe.trees kids)∧Keeps [] X wr) (fun i _=> kids.length - (intOf i).toNat)
     case atStart=> exact ⟨0,Nat.zero_le _,rfl,rfl,Keeps.refl _ _⟩
     case round=>
      obtain ⟨k,hk,rfl,hl,hkp⟩:=hrel;have HLL:=gi hl;have HKX:=gi hkp;have HKW:=gi (HX.o.trans hkp);have x0:=hkp.c c0
      by_cases hlt:k < kids.length
      ·obtain ⟨b',off,rfl,hb,hx⟩:=(HK.o.keep HKW.o).nodes.kid (by omega);have hc1:=(HK.o.keep HKW.o).all kids[k] (List.getElem_mem hlt);have HCALL:=gi (HI.o kids[k] (List.getElem_mem hlt));have HNL:=gi (fun W (h:Keeps [] wr W)=> null_any kids[k] W (hc1.keep h));have hd:beginsCat S (MRe.trees kids)=(beginsT S kids[k].tree || (nullP kids[k].tree && beginsCat S ((MRe.trees kids).drop (k + 1)))):=by rw [←hl,trees_drop kids k hlt,beginsCat]
       obtain ⟨q,hq⟩:∃ q,q=beginsT S kids[k].tree:=⟨_,rfl⟩;obtain ⟨u,hu⟩:∃ u,u=nullP kids[k].tree:=⟨_,rfl⟩;rw [←hq,←hu] at hd;rw [←hq] at HCALL;rw [←hu] at HNL;have HD:=gi hd;have hx0:=hx k hlt
       generalize kids[k]=k0 at *
       obtain ⟨op1,sa1,sc1,set1,ka1,kc1,kids1,mn1,mx1,mode1,n1,neg1⟩:=k0;have g:=hx0.node;obtain ⟨d0,d1,d2,d3,d4,d5,d6,d7⟩:=id g;simp only [MRe.val] at HCALL HNL;have y0:=(Keeps.a1 wr (.cells #[H J op1,M sa1 set1.length sc1,M ka1 kids1.length kc1,H J mn1,H J mx1,H J mode1,H J n1,F neg1] 26)).c x0;clear hq hu hd hc1 hx hl hkp HI hx0 g c0;go_wp2_with fail
       refine Calls.mono (HCALL.o _ (HKW.o.trans (Keeps.a1 wr _))) ?_;rintro e w3 ⟨rfl,hk3⟩;have HK3:=gi ((Keeps.a1 wr (.cells #[H J op1,M sa1 set1.length sc1,M ka1 kids1.length kc1,H J mn1,H J mx1,H J mode1,H J n1,F neg1] 26)).trans hk3);have z:At8 w3 wr.heap.size 0 (.node op1 sa1 sc1 set1 ka1 kc1 kids1 mn1 mx1 mode1 n1 neg1):=At8.keep (At8.box rfl) hk3;have g:=z.node;obtain ⟨e0,e1,e2,e3,e4,e5,e6,e7⟩:=id g;simp only [Nat.zero_add] at e1 e2 e3 e4 e5 e6 e7;clear z g hk3 y0 x0 d0 d1 d2 d3 d4 d5 d6 d7
       cases q with
       | true=>
        have HDE:=gi (HD.o.trans (Bool.true_or _));clear HD;go_wp2;go_ret;exact ⟨by rw [HDE.o];rfl,HKW.o.trans HK3.o⟩
       | false=>
        have HDE:=gi (HD.o.trans (Bool.false_or _));clear HD;go_wp2_with fail
        refine Calls.mono (HNL.o _ HK3.o) ?_;rintro e w4 ⟨rfl,hk4⟩;have HK4:=gi (HK3.o.trans hk4);clear hk4
        cases u with
        | true=>
         have HDF:=gi (HDE.o.trans (Bool.true_and _));clear HDE;go_wp2;go_roundw
         case rel=> exact ⟨k + 1,by omega,by go_num,HDF.o.symm,HKX.o.trans HK4.o⟩
         case measure=> simp [intOf];omega
        | false=>
         have HDF:=gi (HDE.o.trans (Bool.false_and _));clear HDE;go_wp2;go_ret;exact ⟨by rw [HDF.o];rfl,HKW.o.trans HK4.o⟩
      ·obtain rfl:k=kids.length:=by omega
       have h0:beginsCat S (MRe.trees kids)=false:=by rw [←hl,List.drop_of_length_le (by rw [MRe.trees_length];omega)];rfl
       have HH0:=gi h0;clear hl hkp h0;go_wp2;go_ret;exact ⟨by rw [HH0.o];rfl,HKW.o⟩
    ·by_cases hA:op=3∨op=10∨op=4∨op=5∨op=9
     ·have hR:beginsT S (.node op set (MRe.trees kids) mn mx mode n neg)=(MRe.trees kids).any (beginsT S):=by rw [beginsT,if_neg h1,if_neg h6,if_neg h2,if_pos hA,beginsAny_any]
      rw [hR];have hmf:∀ (fn:Fn) (first cap:Array Value) (w:World),(Instr.makeFunc fn first cap).run Tryz.prog w=.ok (.func fn first cap) w:=fun _ _ _ _=> rfl;have HC:=gi (fun W (g:Nat) (h:Keeps [] w W) (hg:W.cell? ⟨g,0,none⟩=some (M sa' S.length sc'))=> containsFunc_any 147 #[.pointer (some ⟨g,0,none⟩)] (beginsT S) ka kc kids W enters_begins1 (HK.o.keep h) fun k hk W' h'=> begins1_of k _ g sa' S.length sc' W' (h'.c hg) fun W2 h2=> HI.o k hk W2 ((h.trans h').trans h2));obtain ⟨q,hq⟩:∃ q,q=(MRe.trees kids).any (beginsT S):=⟨_,rfl⟩;rw [←hq] at HC ⊢;clear hR hq HI h1 h6 h2
      rcases hA with rfl | rfl | rfl | rfl | rfl
      all_goals
       go_enter Tryz.func130,Tryz.ntmps130
       go_wp2_with fail
       refine Calls.mono (HC.o _ (w.heap.size + 1) HX.o (by simp)) ?_;rintro e w2 ⟨rfl,hk⟩;have HK:=gi (HX.o.trans hk);clear hk;go_wp2;go_ret;exact ⟨rfl,HK.o⟩
     ·have hR:beginsT S (.node op set (MRe.trees kids) mn mx mode n neg)=false:=by rw [beginsT,if_neg h1,if_neg h6,if_neg h2,if_neg hA]
      rw [hR];simp only [not_or] at hA;obtain ⟨n3,n10,n4,n5,n9⟩:=hA;clear hR;go_enter Tryz.func130,Tryz.ntmps130
      go_wp2;go_ret;exact ⟨rfl,HX.o⟩
theorem take_on {P:Program} {Q:Exit→Act→World→Prop} {md:Region.Mode} {S:World→Prop} {l r:List Oper} {i:Nat} {oi:Oper} {v:Value} {fuel:Nat} {listed:Array Bool} {a:Act} {w:World}
  (hd:l.drop i=oi::r) (hs:Region.noSelect l.toArray=true) (hf:Region.free md l.toArray listed i=true) (hr:(Region.ready md l.toArray listed).contains i=true)
  (hQ:∀ c a w,Q (.panic c) (a.put oi.dst v) w→Q (.panic c) a w) (hw:Region.wanted oi (yielded l.toArray a.tmps)=true) (hS:S w)
  (hy:∀ w,S w→(execOp a.eval oi).run P w=.ok (.value v) w)
  (h:wpAnyH P md l.toArray Q S fuel (listed.setIfInBounds i true) (a.put oi.dst v) w):wpAnyH P md l.toArray Q S (fuel + 1) listed a w:=
 wpAnyH_take (by rw [List.getElem?_toArray,←List.head?_drop,hd];rfl) hs hf hr hQ (Or.inl ⟨hw,hy⟩) hS h
theorem take_off {P:Program} {Q:Exit→Act→World→Prop} {md:Region.Mode} {S:World→Prop} {l r:List Oper} {i:Nat} {oi:Oper} {fuel:Nat} {listed:Array Bool} {a:Act} {w:World}
  (hd:l.drop i=oi::r) (hs:Region.noSelect l.toArray=true) (hf:Region.free md l.toArray listed i=true) (hr:(Region.ready md l.toArray listed).contains i=true)
  (hQ:∀ c a w,Q (.panic c) (a.put oi.dst undef) w→Q (.panic c) a w) (hw:Region.wanted oi (yielded l.toArray a.tmps)=false) (hS:S w)
  (h:wpAnyH P md l.toArray Q S fuel (listed.setIfInBounds i true) (a.put oi.dst undef) w):wpAnyH P md l.toArray Q S (fuel + 1) listed a w:=
 wpAnyH_take (by rw [List.getElem?_toArray,←List.head?_drop,hd];rfl) hs hf hr hQ (Or.inr ⟨hw,rfl⟩) hS h
theorem branch_one {P:Program} {Q:Exit→Act→World→Prop} {md:Region.Mode} {S:World→Prop} {l r:List Oper} {i:Nat} {oi:Oper} {fuel:Nat} {listed:Array Bool} {a:Act} {w:World}
  (hd:l.drop i=oi::r) (hr:Region.ready md l.toArray listed=[i]) (hw:Region.wanted oi (yielded l.toArray a.tmps)=true)
  (h:∀ K':Act→World→Prop,Shut (∀ a w,S w→(S w→wpAnyH P md l.toArray Q S fuel (listed.setIfInBounds i true) a w)→K' a w)→Oper.wp P oi a w K' Q):
  wpAnyH P md l.toArray Q S (fuel + 1) listed a w:=
 wpAnyH_ready hr (by simp) (AllReadyH.cons (by rw [List.getElem?_toArray,←List.head?_drop,hd];rfl) (fun K hK=> by rw [if_pos hw];exact h K hK) AllReadyH.nil)
theorem branch_two {P:Program} {Q:Exit→Act→World→Prop} {md:Region.Mode} {S:World→Prop} {l r r':List Oper} {i j:Nat} {oi oj:Oper} {fuel:Nat} {listed:Array Bool} {a:Act} {w:World}
  (hd:l.drop i=oi::r) (hd':l.drop j=oj::r') (hr:Region.ready md l.toArray listed=[i,j]) (hw:Region.wanted oi (yielded l.toArray a.tmps)=true) (hw':Region.wanted oj (yielded l.toArray a.tmps)=true)
  (h:∀ K':Act→World→Prop,Shut (∀ a w,S w→(S w→wpAnyH P md l.toArray Q S fuel (listed.setIfInBounds i true) a w)→K' a w)→Oper.wp P oi a w K' Q)
  (h':∀ K':Act→World→Prop,Shut (∀ a w,S w→(S w→wpAnyH P md l.toArray Q S fuel (listed.setIfInBounds j true) a w)→K' a w)→Oper.wp P oj a w K' Q):
  wpAnyH P md l.toArray Q S (fuel + 1) listed a w:=
 wpAnyH_ready hr (by simp) (AllReadyH.cons (by rw [List.getElem?_toArray,←List.head?_drop,hd];rfl) (fun K hK=> by rw [if_pos hw];exact h K hK) (AllReadyH.cons (by rw [List.getElem?_toArray,←List.head?_drop,hd'];rfl) (fun K hK=> by rw [if_pos hw'];exact h' K hK) AllReadyH.nil))
theorem branch_off {P:Program} {Q:Exit→Act→World→Prop} {md:Region.Mode} {S:World→Prop} {l r:List Oper} {i:Nat} {oi:Oper} {fuel:Nat} {listed:Array Bool} {a:Act} {w:World}
  (hd:l.drop i=oi::r) (hr:Region.ready md l.toArray listed=[i]) (hw:Region.wanted oi (yielded l.toArray a.tmps)=false) (hS:S w)
  (h:wpAnyH P md l.toArray Q S fuel (listed.setIfInBounds i true) (a.put oi.dst undef) w):
  wpAnyH P md l.toArray Q S (fuel + 1) listed a w:=
 wpAnyH_ready hr (by simp) (AllReadyH.cons (by rw [List.getElem?_toArray,←List.head?_drop,hd];rfl) (fun K hK=> by rw [if_neg (by rw [hw];simp)];exact hK _ _ hS (fun _=> h)) AllReadyH.nil)
theorem tk {P:Program} {Q:Exit→Act→World→Prop} {md:Region.Mode} {S:World→Prop} {l r:List Oper} (i:Nat) {oi:Oper} {v:Value} {fuel:Nat} {listed listed':Array Bool} {a a':Act} {w:World}
  (h:wpAnyH P md l.toArray Q S fuel listed' a' w) (hd:l.drop i=oi::r:=by rfl) (hs:Region.noSelect l.toArray=true:=by kernel_rfl) (hf:Region.free md l.toArray listed i=true:=by kernel_rfl) (hr:(Region.ready md l.toArray listed).contains i=true:=by kernel_rfl)
  (hw:Region.wanted oi (yielded l.toArray a.tmps)=true:=by rfl) (hS:S w:=by assumption)
  (hy:∀ w,S w→(execOp a.eval oi).run P w=.ok (.value v) w:=by ((intro w hSw;(try dsimp only at hSw);go_simp <;> with_reducible rfl);done))
  (hQ:∀ c a w,Q (.panic c) (a.put oi.dst v) w→Q (.panic c) a w:=by exact fun _ _ _ h=> h)
  (hl:listed.setIfInBounds i true=listed':=by first | (simp only [List.setIfInBounds_toArray,List.set_cons_zero,List.set_cons_succ];exact rfl) | exact rfl) (ha:a.put oi.dst v=a':=by first | (simp only [Act.put,List.setIfInBounds_toArray,List.set_cons_zero,List.set_cons_succ];exact rfl) | exact rfl):wpAnyH P md l.toArray Q S (fuel + 1) listed a w:=
 take_on hd hs hf hr hQ hw hS hy (by rw [hl,ha];exact h)
theorem tf {P:Program} {Q:Exit→Act→World→Prop} {md:Region.Mode} {S:World→Prop} {l r:List Oper} (i:Nat) {oi:Oper} {fuel:Nat} {listed listed':Array Bool} {a a':Act} {w:World}
  (h:wpAnyH P md l.toArray Q S fuel listed' a' w) (hd:l.drop i=oi::r:=by rfl) (hs:Region.noSelect l.toArray=true:=by kernel_rfl) (hf:Region.free md l.toArray listed i=true:=by kernel_rfl) (hr:(Region.ready md l.toArray listed).contains i=true:=by kernel_rfl)
  (hw:Region.wanted oi (yielded l.toArray a.tmps)=false:=by rfl) (hS:S w:=by assumption)
  (hQ:∀ c a w,Q (.panic c) (a.put oi.dst undef) w→Q (.panic c) a w:=by exact fun _ _ _ h=> h)
  (hl:listed.setIfInBounds i true=listed':=by first | (simp only [List.setIfInBounds_toArray,List.set_cons_zero,List.set_cons_succ];exact rfl) | exact rfl) (ha:a.put oi.dst undef=a':=by first | (simp only [Act.put,List.setIfInBounds_toArray,List.set_cons_zero,List.set_cons_succ];exact rfl) | exact rfl):wpAnyH P md l.toArray Q S (fuel + 1) listed a w:=
 take_off hd hs hf hr hQ hw hS (by rw [hl,ha];exact h)
theorem j6 {P:Program} {Q:Exit→Act→World→Prop} {md:Region.Mode} {S:World→Prop} {l r:List Oper} (i:Nat) {oi:Oper} {fuel:Nat} {listed:Array Bool} {a:Act} {w:World}
  (h:∀ K':Act→World→Prop,Shut (∀ a w,S w→(S w→wpAnyH P md l.toArray Q S fuel (listed.setIfInBounds i true) a w)→K' a w)→Oper.wp P oi a w K' Q)
  (hd:l.drop i=oi::r:=by rfl) (hr:Region.ready md l.toArray listed=[i]:=by kernel_rfl) (hw:Region.wanted oi (yielded l.toArray a.tmps)=true:=by rfl):
  wpAnyH P md l.toArray Q S (fuel + 1) listed a w:=branch_one hd hr hw h
theorem j7 {P:Program} {Q:Exit→Act→World→Prop} {md:Region.Mode} {S:World→Prop} {l r r':List Oper} (i j:Nat) {oi oj:Oper} {fuel:Nat} {listed:Array Bool} {a:Act} {w:World}
  (h:∀ K':Act→World→Prop,Shut (∀ a w,S w→(S w→wpAnyH P md l.toArray Q S fuel (listed.setIfInBounds i true) a w)→K' a w)→Oper.wp P oi a w K' Q)
  (h':∀ K':Act→World→Prop,Shut (∀ a w,S w→(S w→wpAnyH P md l.toArray Q S fuel (listed.setIfInBounds j true) a w)→K' a w)→Oper.wp P oj a w K' Q)
  (hd:l.drop i=oi::r:=by rfl) (hd':l.drop j=oj::r':=by rfl) (hr:Region.ready md l.toArray listed=[i,j]:=by kernel_rfl) (hw:Region.wanted oi (yielded l.toArray a.tmps)=true:=by rfl) (hw':Region.wanted oj (yielded l.toArray a.tmps)=true:=by rfl):
  wpAnyH P md l.toArray Q S (fuel + 1) listed a w:=branch_two hd hd' hr hw hw' h h'
theorem wd {P:Program} {Q:Exit→Act→World→Prop} {md:Region.Mode} {S:World→Prop} {ops:Array Oper} {fuel:Nat} {listed:Array Bool} {a:Act} {w:World} (h:Q .normal a w) (hr:Region.ready md ops listed=[]:=by kernel_rfl):wpAnyH P md ops Q S fuel listed a w:=wpAnyH_done hr h _
theorem rg {P:Program} {id:Nat} {ops:Array Oper} {Q:Exit→Act→World→Prop} {a:Act} {w:World} {S:World→Prop} (hk:∀ W,Keeps [] w W→S W) (h:Hd (∀ W,Keeps [] w W→S W)→S w.drew→wpAnyH P .any ops Q S ops.size (Array.replicate ops.size false) a w.drew) (hm:P.follows .mixedOrders=true:=by kernel_rfl):(Code.region id ops true).wp P Q a w:=
 wp_region_held_drew hm (hk _ (Keeps.refl [] w).drew) (h (gi hk))
def hdNull:List Tree→Bool
 | []=> false
 | k::_=> nullP k
def usesOfT:Tree→Nat
 | .node op _ kids _ _ mode _ _=>
  if op=6 then 1 else if op=10 then 2 else if op=7∨op=8 then 4 else if op=9 then 8 else if op=11 then 16 else if op=5 then 64
  else if op=4 then (if mode=2 then 8 else 0) ||| (if hdNull kids=true then 32 else 0) else 0
mutual
def usesT:Tree→Nat
 | .node op set kids mn mx mode n neg=> usesOfT (.node op set kids mn mx mode n neg) ||| usesL kids
def usesL:List Tree→Nat
 | []=> 0
 | k::ks=> usesT k ||| usesL ks
end
theorem usesOfT_lt (t:Tree):usesOfT t < 128:=by
 cases t
 simp only [usesOfT]
 repeat' split
 all_goals decide
theorem or_lt {a b:Nat} (ha:a < 128) (hb:b < 128):a ||| b < 128:=Nat.or_lt_two_pow (n:=7) ha hb
theorem usesL_lt_of (l:List Tree) (h:∀ k∈l,usesT k < 128):usesL l < 128:=by
 induction l with
 | nil=> simp [usesL]
 | cons x xs ih=>
  rw [usesL];exact or_lt (h x (by simp)) (ih fun k hk=> h k (by simp [hk]))
theorem usesT_lt (t:Tree):usesT t < 128:=by
 refine Tree.induct (P:=fun t=> usesT t < 128) (fun op set kids mn mx mode n neg ih=> ?_) t;rw [usesT];exact or_lt (usesOfT_lt _) (usesL_lt_of kids ih)
theorem bits_or {a b:Nat} (ha:a < 128) (hb:b < 128):bits .or .i64 (a:Int) (b:Int)=((a ||| b:Nat):Int):=by
 have h:=or_lt ha hb;have e:(BitVec.ofInt 64 (a:Int) ||| BitVec.ofInt 64 (b:Int)).toNat=a ||| b:=by
  rw [BitVec.toNat_or,BitVec.ofInt_natCast,BitVec.ofInt_natCast,BitVec.toNat_ofNat,BitVec.toNat_ofNat,Nat.mod_eq_of_lt (by omega),Nat.mod_eq_of_lt (by omega)]
 show IntKind.i64.wrap ((BitVec.ofInt 64 (a:Int) ||| BitVec.ofInt 64 (b:Int)).toNat:Int)=_
 rw [e,IntWalk.i64_in _ (by omega)]
theorem usesOf_any (b o:Nat) (m:MRe) (w:World) (h1:At8 w b o m) (k1:m.OK w):
  Calls Tryz.prog 70 #[.pointer (some ⟨b,o,none⟩)] w fun e w'=> e=.returned (H J (usesOfT m.tree))∧Keeps [] w w':=by
 obtain ⟨op,sa,sc,set,ka,kc,kids,mn,mx,mode,n,neg⟩:=m;have hT:usesOfT (MRe.tree (.node op sa sc set ka kc kids mn mx mode n neg))=usesOfT (.node op set (MRe.trees kids) mn mx mode n neg):=rfl;rw [hT];have a0:=h1.node.c0;have a2:=h1.node.c2;have a5:=h1.node.c5;have HK:=gi k1.kids;clear hT h1 k1
 by_cases hA:op=6∨op=10∨op=7∨op=8∨op=9∨op=11∨op=5
 ·rcases hA with rfl | rfl | rfl | rfl | rfl | rfl | rfl
  all_goals
   go_enter Tryz.func70,Tryz.ntmps70
   go_wp2;go_ret;exact ⟨rfl,Keeps.refl _ _⟩
 ·simp only [not_or] at hA;obtain ⟨n6,n10,n7,n8,n9,n11,n5⟩:=hA
  by_cases h4:op=4
  ·subst h4;have hR:usesOfT (.node 4 set (MRe.trees kids) mn mx mode n neg)=(if mode=2 then 8 else 0) ||| (if hdNull (MRe.trees kids)=true then 32 else 0):=rfl;rw [hR];clear hR
   cases kids with
   | nil=>
    have hh:hdNull (MRe.trees [])=false:=rfl;rw [hh]
    by_cases hm:mode=2
    ·subst hm;go_enter Tryz.func70,Tryz.ntmps70
     go_wp2;go_ret;exact ⟨rfl,Keeps.refl _ _⟩
    ·rw [if_neg hm];go_enter Tryz.func70,Tryz.ntmps70
     go_wp2;go_ret;exact ⟨rfl,Keeps.refl _ _⟩
   | cons k0 ks=>
    have hh:hdNull (MRe.trees (k0::ks))=nullP k0.tree:=rfl;rw [hh];obtain ⟨b',off,rfl,hb,hx⟩:=HK.o.nodes.kid (by simp);have hx0:=hx 0 (by simp);have HN:=gi (fun W (h:Keeps [] w W)=> null_any k0 W ((HK.o.all k0 (by simp)).keep h));obtain ⟨q,hq⟩:∃ q,q=nullP k0.tree:=⟨_,rfl⟩;rw [←hq] at HN ⊢;rw [Nat.zero_mul,Nat.add_zero,List.getElem_cons_zero] at hx0;obtain ⟨op1,sa1,sc1,set1,ka1,kc1,kids1,mn1,mx1,mode1,n1,neg1⟩:=k0;have g:=hx0.node;obtain ⟨d0,d1,d2,d3,d4,d5,d6,d7⟩:=id g;simp only [MRe.val] at HN;obtain ⟨l,hl⟩:∃ l,l=((.node op1 sa1 sc1 set1 ka1 kc1 kids1 mn1 mx1 mode1 n1 neg1)::ks:List MRe).length:=⟨_,rfl⟩;have hl0:0 < l:=by rw [hl];simp
    have hl0i:(0:Int) < (l:Int):=by omega
    rw [←hl] at a2;clear g hx0 hx hh hq hl
    by_cases hm:mode=2
    ·subst hm;rw [if_pos rfl];go_enter Tryz.func70,Tryz.ntmps70
     go_wp2_with fail
     refine Calls.mono (HN.o _ (by first | exact Keeps.refl _ _ | exact (Keeps.refl _ _).drew)) ?_;rintro e w2 ⟨rfl,hk⟩;have HK2:=gi hk;clear hk
     cases q
     all_goals
      go_wp2;go_ret;exact ⟨rfl,HK2.o⟩
    ·rw [if_neg hm];go_enter Tryz.func70,Tryz.ntmps70
     go_wp2_with fail
     refine Calls.mono (HN.o _ (by first | exact Keeps.refl _ _ | exact (Keeps.refl _ _).drew)) ?_;rintro e w2 ⟨rfl,hk⟩;have HK2:=gi hk;clear hk
     cases q
     all_goals
      go_wp2;go_ret;exact ⟨rfl,HK2.o⟩
  ·have hR:usesOfT (.node op set (MRe.trees kids) mn mx mode n neg)=0:=by rw [usesOfT,if_neg n6,if_neg n10,if_neg (by simp [n7,n8]),if_neg n9,if_neg n11,if_neg n5,if_neg h4]
   rw [hR];go_enter Tryz.func70,Tryz.ntmps70
   go_wp2;go_ret;exact ⟨rfl,Keeps.refl _ _⟩
end Go.Proofs.YtjnlkjlbejelgaaGreat
