/- Part 35 of the proof. No condition: every lemma says its own. -/
import Derived.Test.YtjnlkjlbejelgaaGreatQat
namespace Go.Proofs.YtjnlkjlbejelgaaGreat
open Go.RowKit
open Go.Value renaming int→H,slice→M,bool→F
open Go.IntKind renaming i64→J
set_option maxRecDepth 100000
set_option maxHeartbeats 16000000
mutual
def sizeT:Tree→Nat
 | .node _ _ kids _ _ _ _ _=> 1 + sizeTs kids
def sizeTs:List Tree→Nat
 | []=> 0
 | k::ks=> sizeT k + sizeTs ks
end
mutual
def depthT:Tree→Nat
 | .node _ _ kids _ _ _ _ _=> depthTs kids + 1
def depthTs:List Tree→Nat
 | []=> 0
 | k::ks=> max (depthT k) (depthTs ks)
end
theorem sizeTs_take {l:List Tree} {k:Nat} (h:k < l.length):sizeTs (l.take (k + 1))=sizeTs (l.take k) + sizeT l[k]:=by
 induction l generalizing k with
 | nil=> simp at h
 | cons x r ih=>
  cases k with
  | zero=> simp [sizeTs]
  | succ n=>
   have:=ih (k:=n) (by simpa using h)
   simp only [List.take_succ_cons,sizeTs,this,List.getElem_cons_succ];omega
theorem depthTs_take {l:List Tree} {k:Nat} (h:k < l.length):depthTs (l.take (k + 1))=max (depthTs (l.take k)) (depthT l[k]):=by
 induction l generalizing k with
 | nil=> simp at h
 | cons x r ih=>
  cases k with
  | zero=> simp [depthTs]
  | succ n=>
   have:=ih (k:=n) (by simpa using h)
   simp only [List.take_succ_cons,depthTs,this,List.getElem_cons_succ];omega
theorem size_depth:∀ t:Tree,sizeT t≤t.bulk∧depthT t≤t.bulk:=by
 intro t
 induction t using Tree.induct with
 | h op set kids mn mx mode n neg ih=>
  have hs:∀ l:List Tree,(∀ k∈l,sizeT k≤k.bulk∧depthT k≤k.bulk)→sizeTs l≤Tree.bulks l∧depthTs l≤Tree.bulks l:=by
   intro l
   induction l with
   | nil=> intro _;exact ⟨Nat.le_refl _,Nat.le_refl _⟩
   | cons x r ih2=>
    intro h;have h1:=h x (by simp);have h2:=ih2 (fun k hk=> h k (by simp [hk]));simp only [sizeTs,depthTs,Tree.bulks];omega
  have:=hs kids ih
  simp only [sizeT,depthT,Tree.bulk];omega
theorem rsize_any (m:MRe):∀ (w:World),m.OK w→m.tree.bulk≤1000000→
  Calls Tryz.prog 74 #[m.val] w fun e w'=> e=.returned (H J (sizeT m.tree:Nat))∧Keeps [] w w':=by
 induction m using MRe.induct with
 | h op sa sc set ka kc kids mn mx mode n neg ih=>
  intro w k1 hb;have hsz:=(size_depth (MRe.tree (.node op sa sc set ka kc kids mn mx mode n neg))).1;obtain ⟨R,hR0⟩:∃ R,R=sizeT (MRe.tree (.node op sa sc set ka kc kids mn mx mode n neg)):=⟨_,rfl⟩;rw [←hR0] at hsz ⊢;replace hR0:R=1 + sizeTs (MRe.trees kids):=by rw [hR0];simp only [MRe.tree,sizeT]
  have hRb:R≤1000000:=by omega
  have HR0:=gi hR0;obtain ⟨hbl,_,hbk⟩:=kids_bulk hb;have HI:=gi (fun k (hk:k∈kids) W (h:Keeps [] w W)=> ih k hk W ((k1.kid hk).keep h) (hbk k hk));have HK:=gi k1.kids;have hle:=k1.nodes.le;have hcap:=k1.nodes.cap;unfold maxLen at hcap;have HMONO:=gi (show ∀ k,k≤kids.length→sizeTs ((MRe.trees kids).take k)≤R - 1 from fun k hk=> by
   have h1:∀ (l:List Tree) j,sizeTs (l.take j)≤sizeTs l:=by
    intro l
    induction l with
    | nil=> intro j;simp
    | cons x r ih2=>
     intro j
     cases j with
     | zero=> exact Nat.zero_le _
     | succ j=> have:=ih2 j;simp only [List.take_succ_cons,sizeTs];omega
   have:=h1 (MRe.trees kids) k
   omega)
  simp only [MRe.val];obtain ⟨B,Y,c0,c1,c2,c3,c4,c5,c6,c7,HYE,HBE,KY⟩:=pre1 w op sa sc set ka kc kids mn mx mode n neg;clear ih k1 hb hbk hR0 hsz;go_enter Tryz.func74,Tryz.ntmps74
  go_upto_region 1 with fail
  rw [←HYE.o,←HBE.o];go_wp2
  go_loopw [3,4] (fun v i wr=> ∃ k:Nat,k≤kids.length∧i=H J k∧v=H J ((1 + sizeTs ((MRe.trees kids).take k):Nat):Int)∧Keeps [] Y wr) (fun _ i _=> kids.length - (intOf i).toNat)
  case atStart=> exact ⟨0,Nat.zero_le _,rfl,rfl,Keeps.refl _ _⟩
  case round=>
   obtain ⟨k,hkk,rfl,rfl,hkp⟩:=hrel;have HKP:=gi hkp;have y2:=hkp.c c2;clear hkp
   by_cases hlt:k < kids.length
   ·obtain ⟨b,off,rfl,hb,hx⟩:=(HK.o.keep (KY.o.trans HKP.o)).nodes.kid (by omega);have hx0:=hx k hlt;have HC:=gi (HI.o kids[k] (List.getElem_mem hlt) wr (KY.o.trans HKP.o));have hlt':k < (MRe.trees kids).length:=by rw [MRe.trees_length];exact hlt
    have hn:=sizeTs_take hlt';rw [trees_getElem kids k hlt] at hn;have hm1:=HMONO.o (k + 1) (by omega);obtain ⟨acc,hacc⟩:∃ acc,acc=sizeTs ((MRe.trees kids).take k):=⟨_,rfl⟩;rw [←hacc] at hn ⊢
    generalize kids[k]=m at *
    obtain ⟨q,hq⟩:∃ q,q=sizeT m.tree:=⟨_,rfl⟩;rw [←hq] at HC hn;rw [hn] at hm1;have HN:=gi hn;obtain ⟨op1,sa1,sc1,set1,ka1,kc1,kids1,mn1,mx1,mode1,n1,neg1⟩:=m;have g:=hx0.node;obtain ⟨e0,e1,e2,e3,e4,e5,e6,e7⟩:=id g;simp only [MRe.val] at HC;have hq1:1 + acc + q≤1000001:=by omega
    clear g hx0 hx hq hn hacc hm1 hb;go_wp2_with fail
    refine Calls.mono HC.o ?_;rintro e w3 ⟨rfl,hk3⟩;have K3:=gi (HKP.o.trans hk3);clear hk3;go_wp2;go_roundw
    case rel=> exact ⟨k + 1,by omega,by go_num,by rw [HN.o];congr 1;omega,K3.o⟩
    case measure=> simp [intOf];omega
   ·obtain rfl:k=kids.length:=by omega
    have h0:1 + sizeTs ((MRe.trees kids).take kids.length)=R:=by rw [HR0.o,←MRe.trees_length,List.take_length]
    rw [h0];clear h0;go_wp2;go_ret;exact ⟨rfl,KY.o.trans HKP.o⟩
theorem rdepth_any (m:MRe):∀ (w:World),m.OK w→m.tree.bulk≤1000000→
  Calls Tryz.prog 75 #[m.val] w fun e w'=> e=.returned (H J (depthT m.tree:Nat))∧Keeps [] w w':=by
 induction m using MRe.induct with
 | h op sa sc set ka kc kids mn mx mode n neg ih=>
  intro w k1 hb;have hsz:=(size_depth (MRe.tree (.node op sa sc set ka kc kids mn mx mode n neg))).2;obtain ⟨R,hR0⟩:∃ R,R=depthT (MRe.tree (.node op sa sc set ka kc kids mn mx mode n neg)):=⟨_,rfl⟩;rw [←hR0] at hsz ⊢;replace hR0:R=depthTs (MRe.trees kids) + 1:=by rw [hR0];simp only [MRe.tree,depthT]
  have hRb:R≤1000000:=by omega
  have HR0:=gi hR0;obtain ⟨hbl,_,hbk⟩:=kids_bulk hb;have HI:=gi (fun k (hk:k∈kids) W (h:Keeps [] w W)=> ih k hk W ((k1.kid hk).keep h) (hbk k hk));have HK:=gi k1.kids;have hle:=k1.nodes.le;have hcap:=k1.nodes.cap;unfold maxLen at hcap;have HMONO:=gi (show ∀ k,k≤kids.length→depthTs ((MRe.trees kids).take k)≤R - 1 from fun k hk=> by
   have h1:∀ (l:List Tree) j,depthTs (l.take j)≤depthTs l:=by
    intro l
    induction l with
    | nil=> intro j;simp
    | cons x r ih2=>
     intro j
     cases j with
     | zero=> exact Nat.zero_le _
     | succ j=> have:=ih2 j;simp only [List.take_succ_cons,depthTs];omega
   have:=h1 (MRe.trees kids) k
   omega)
  simp only [MRe.val];obtain ⟨B,Y,c0,c1,c2,c3,c4,c5,c6,c7,HYE,HBE,KY⟩:=pre1 w op sa sc set ka kc kids mn mx mode n neg;clear ih k1 hb hbk hR0 hsz;go_enter Tryz.func75,Tryz.ntmps75
  go_upto_region 1 with fail
  rw [←HYE.o,←HBE.o];go_wp2
  go_loopw [3,4] (fun v i wr=> ∃ k:Nat,k≤kids.length∧i=H J k∧v=H J ((depthTs ((MRe.trees kids).take k):Nat):Int)∧Keeps [] Y wr) (fun _ i _=> kids.length - (intOf i).toNat)
  case atStart=> exact ⟨0,Nat.zero_le _,rfl,rfl,Keeps.refl _ _⟩
  case round=>
   obtain ⟨k,hkk,rfl,rfl,hkp⟩:=hrel;have HKP:=gi hkp;have y2:=hkp.c c2;clear hkp
   by_cases hlt:k < kids.length
   ·obtain ⟨b,off,rfl,hb,hx⟩:=(HK.o.keep (KY.o.trans HKP.o)).nodes.kid (by omega);have hx0:=hx k hlt;have HC:=gi (HI.o kids[k] (List.getElem_mem hlt) wr (KY.o.trans HKP.o));have hlt':k < (MRe.trees kids).length:=by rw [MRe.trees_length];exact hlt
    have hn:=depthTs_take hlt';rw [trees_getElem kids k hlt] at hn;have hm1:=HMONO.o (k + 1) (by omega);obtain ⟨acc,hacc⟩:∃ acc,acc=depthTs ((MRe.trees kids).take k):=⟨_,rfl⟩;rw [←hacc] at hn ⊢
    generalize kids[k]=m at *
    obtain ⟨q,hq⟩:∃ q,q=depthT m.tree:=⟨_,rfl⟩;rw [←hq] at HC hn;rw [hn] at hm1;have HN:=gi hn;obtain ⟨op1,sa1,sc1,set1,ka1,kc1,kids1,mn1,mx1,mode1,n1,neg1⟩:=m;have g:=hx0.node;obtain ⟨e0,e1,e2,e3,e4,e5,e6,e7⟩:=id g;simp only [MRe.val] at HC;have hq1:acc≤1000001∧q≤1000001:=by omega
    clear g hx0 hx hq hn hacc hm1 hb;go_wp2_with fail
    refine Calls.mono HC.o ?_;rintro e w3 ⟨rfl,hk3⟩;have K3:=gi (HKP.o.trans hk3);clear hk3
    by_cases hcn:(acc:Int) < (q:Int)
    ·go_wp2;go_roundw
     case rel=> exact ⟨k + 1,by omega,by go_num,by rw [HN.o];congr 1;omega,K3.o⟩
     case measure=> simp [intOf];omega
    ·go_wp2;go_roundw
     case rel=> exact ⟨k + 1,by omega,by go_num,by rw [HN.o];congr 1;omega,K3.o⟩
     case measure=> simp [intOf];omega
   ·obtain rfl:k=kids.length:=by omega
    have h0:depthTs ((MRe.trees kids).take kids.length)=R - 1:=by rw [HR0.o,←MRe.trees_length,List.take_length];omega
    rw [h0];have h1:((R - 1:Nat):Int) + 1=(R:Int):=by have:=HR0.o;omega
    have H1:=gi h1;clear h0 h1;go_wp2;go_ret;exact ⟨by rw [←H1.o];rfl,KY.o.trans HKP.o⟩
def kidsP (op:Int):Int × Int:=
 if op=2∨op=3 then (2,-1) else if op=4∨op=5∨op=7∨op=8∨op=9 then (1,1) else if op=10 then (2,2) else (0,0)
theorem rkids_any (op:Int) (w:World):
  Calls Tryz.prog 138 #[H J op] w fun e w'=> e=.returned (.tuple #[H J (kidsP op).1,H J (kidsP op).2])∧w=w':=by
 obtain ⟨p,hp⟩:∃ p,p=kidsP op:=⟨_,rfl⟩;rw [←hp];unfold kidsP at hp;have HP:=gi hp;clear hp
 by_cases hs:op=2∨op=3∨op=4∨op=5∨op=7∨op=8∨op=9∨op=10
 ·rcases hs with rfl | rfl | rfl | rfl | rfl | rfl | rfl | rfl
  all_goals
   go_enter Tryz.func138,Tryz.ntmps138
   go_wp2
   go_ret2
   exact ⟨by rw [HP.o];rfl,rfl⟩
 ·have h2:(op==2)=false:=by simp;omega
  have h3:(op==3)=false:=by simp;omega
  have h4:(op==4)=false:=by simp;omega
  have h5:(op==5)=false:=by simp;omega
  have h7:(op==7)=false:=by simp;omega
  have h8:(op==8)=false:=by simp;omega
  have h9:(op==9)=false:=by simp;omega
  have h10:(op==10)=false:=by simp;omega
  have HP2:=gi (show p=(0,0) by rw [HP.o,if_neg (by omega),if_neg (by omega),if_neg (by omega)]);clear HP hs;go_enter Tryz.func138,Tryz.ntmps138
  go_wp2
  go_ret2
  exact ⟨by rw [HP2.o];rfl,rfl⟩
def badS (top:Int) (pv:Option Int) (s:Int × Int):Bool:=decide (s.1 < 0) || (decide (s.2 < s.1) || (decide (top < s.2) || (match pv with | none=> false | some h=> decide (s.1≤h + 1))))
def spansGo (top:Int):Option Int→List (Int × Int)→Bool
 | _,[]=> true
 | pv,s::r=> !badS top pv s && spansGo top (some s.2) r
def spansB (l:List (Int × Int)) (top:Int):Bool:=decide (l.length≤64) && spansGo top none l
def pvS (l:List (Int × Int)):Nat→Option Int
 | 0=> none
 | k + 1=> (l[k]?).map Prod.snd
theorem pvS_succ {l:List (Int × Int)} {k j:Nat} (h:k=j + 1) (hj:j < l.length):pvS l k=some (l[j]'hj).2:=by
 subst h
 show (l[j]?).map Prod.snd=_
 rw [List.getElem?_eq_getElem hj];rfl
theorem rspans_any (sa:Option Addr) (sc:Nat) (set:List (Int × Int)) (top:Int) (w:World) (hs:SpansIn w sa sc set) (ht:top≤2000000):
  Calls Tryz.prog 139 #[M sa set.length sc,H J top] w fun e w'=> e=.returned (F (spansB set top))∧Keeps [] w w':=by
 obtain ⟨R,hR0⟩:∃ R,R=spansB set top:=⟨_,rfl⟩;rw [←hR0];unfold spansB at hR0;have HS:=gi hs;have hcap:=hs.cap;have hle:=hs.le;unfold maxLen at hcap;clear hs
 by_cases h64:set.length≤64
 ·have HR:=gi (show R=spansGo top none set by rw [hR0];simp [h64]);have HT:=gi ht;clear hR0 ht;go_enter Tryz.func139,Tryz.ntmps139
  go_wp2
  go_loopw [5] (fun i wr=> ∃ k:Nat,k≤set.length∧i=H J k∧spansGo top (pvS set k) (set.drop k)=spansGo top none set∧(∀ h,pvS set k=some h→0≤h∧h≤2000000)∧Keeps [] w wr) (fun i _=> set.length - (intOf i).toNat)
  case atStart=> exact ⟨0,Nat.zero_le _,rfl,rfl,(fun h hh=> by cases hh),Keeps.refl _ _⟩
  case round=>
   obtain ⟨k,hkk,rfl,hgo,hpv,hkp⟩:=hrel;have HKP:=gi hkp;have HGO:=gi hgo;have HPV:=gi hpv;obtain ⟨wo,hwo⟩:∃ wo,wo=wr:=⟨_,rfl⟩;clear hkp hgo hpv
   by_cases hlt:k < set.length
   ·obtain ⟨b,off,rfl,hb,hx⟩:=(HS.o.keep HKP.o).at_ (by omega);obtain ⟨e0,e1⟩:=hx k hlt;have hd:set.drop k=set[k]::set.drop (k + 1):=List.drop_eq_getElem_cons hlt;have hg:=HGO.o;rw [hd,spansGo] at hg;have hp1:pvS set (k + 1)=some set[k].2:=by show (set[k]?).map Prod.snd=_;rw [List.getElem?_eq_getElem hlt];rfl
    obtain ⟨s,hse⟩:∃ s,s=set[k]:=⟨_,rfl⟩;rw [←hse] at e0 e1 hg hp1;obtain ⟨lo,hi⟩:=s;have HG:=gi hg;have HP1:=gi hp1;have hkI:(k:Int) < (set.length:Int):=by omega
    have hk0:(0:Int)≤(k:Int):=by omega
    have HX:=gi hx;clear hg hp1 hd hse hx hb;simp only at e0 e1
    by_cases q1:lo < 0
    ·have d1:decide (lo < 0)=true:=by simpa using q1
     have HBAD:=gi (show badS top (pvS set k) (lo,hi)=true by simp [badS,q1]);go_wp2_with fail
     refine rg (S:=fun w'=> w'.cell? ⟨b,off + k * 2,none⟩=some (H J lo)∧w'.cell? ⟨b,off + k * 2 + 1,none⟩=some (H J hi)) (fun _ k=> ⟨k.c e0,k.c e1⟩) fun kz hHeld=> ?_;refine tk 0 ?_;refine tk 1 ?_;refine tk 2 ?_;refine tk 3 ?_;refine tk 4 ?_;refine tk 5 ?_;refine tk 6 ?_;refine tf 7 ?_;refine tf 8 ?_;refine tf 9 ?_;refine tf 10 ?_;refine tf 11 ?_;refine tf 12 ?_;refine tf 13 ?_;refine tf 14 ?_;refine tf 15 ?_;refine tf 16 ?_;refine tf 17 ?_;refine tk 18 ?_;refine tk 19 ?_;refine tf 20 ?_;refine tf 21 ?_;refine tf 22 ?_;refine tf 23 ?_;refine tf 24 ?_;refine tf 25 ?_;refine tf 26 ?_;refine tk 27 ?_;refine tk 28 ?_;refine tf 29 ?_;refine tf 30 ?_;refine tf 31 ?_;refine tf 32 ?_;refine tf 33 ?_;refine tf 34 ?_;refine tf 35 ?_;refine tf 36 ?_;refine tf 37 ?_;refine tf 38 ?_;refine tf 39 ?_;refine tf 40 ?_;refine tf 41 ?_;refine tf 42 ?_;refine tf 43 ?_;refine tf 44 ?_;refine tf 45 ?_;refine tk 46 ?_;refine wd ?_;clear hHeld;go_wp2;go_ret;exact ⟨by rw [HR.o,←HG.o,HBAD.o];rfl,HKP.o.drew⟩
    ·have d1:decide (lo < 0)=false:=by simpa using q1
     by_cases q2:hi < lo
     ·have d2:decide (hi < lo)=true:=by simpa using q2
      have HBAD:=gi (show badS top (pvS set k) (lo,hi)=true by simp [badS,q2]);go_wp2_with fail
      refine rg (S:=fun w'=> w'.cell? ⟨b,off + k * 2,none⟩=some (H J lo)∧w'.cell? ⟨b,off + k * 2 + 1,none⟩=some (H J hi)) (fun _ k=> ⟨k.c e0,k.c e1⟩) fun kz hHeld=> ?_;refine tk 0 ?_;refine tk 1 ?_;refine tk 2 ?_;refine tk 3 ?_;refine tk 4 ?_;refine tk 5 ?_;refine tk 6 ?_;refine tk 7 ?_;refine tk 8 ?_;refine tk 9 ?_;refine tk 10 ?_;refine tk 11 ?_;refine tk 12 ?_;refine tk 13 ?_;refine tk 14 ?_;refine tk 15 ?_;refine tk 16 ?_;refine tk 17 ?_;refine tk 18 ?_;refine tk 19 ?_;refine tf 20 ?_;refine tf 21 ?_;refine tf 22 ?_;refine tf 23 ?_;refine tf 24 ?_;refine tf 25 ?_;refine tf 26 ?_;refine tk 27 ?_;refine tk 28 ?_;refine tf 29 ?_;refine tf 30 ?_;refine tf 31 ?_;refine tf 32 ?_;refine tf 33 ?_;refine tf 34 ?_;refine tf 35 ?_;refine tf 36 ?_;refine tf 37 ?_;refine tf 38 ?_;refine tf 39 ?_;refine tf 40 ?_;refine tf 41 ?_;refine tf 42 ?_;refine tf 43 ?_;refine tf 44 ?_;refine tf 45 ?_;refine tk 46 ?_;refine wd ?_;clear hHeld;go_wp2;go_ret;exact ⟨by rw [HR.o,←HG.o,HBAD.o];rfl,HKP.o.drew⟩
     ·have d2:decide (hi < lo)=false:=by simpa using q2
      by_cases q3:top < hi
      ·have d3:decide (top < hi)=true:=by simpa using q3
       have HBAD:=gi (show badS top (pvS set k) (lo,hi)=true by simp [badS,q3]);go_wp2_with fail
       refine rg (S:=fun w'=> w'.cell? ⟨b,off + k * 2,none⟩=some (H J lo)∧w'.cell? ⟨b,off + k * 2 + 1,none⟩=some (H J hi)) (fun _ k=> ⟨k.c e0,k.c e1⟩) fun kz hHeld=> ?_;refine tk 0 ?_;refine tk 1 ?_;refine tk 2 ?_;refine tk 3 ?_;refine tk 4 ?_;refine tk 5 ?_;refine tk 6 ?_;refine tk 7 ?_;refine tk 8 ?_;refine tk 9 ?_;refine tk 10 ?_;refine tk 11 ?_;refine tk 12 ?_;refine tk 13 ?_;refine tk 14 ?_;refine tk 15 ?_;refine tk 16 ?_;refine tk 17 ?_;refine tk 18 ?_;refine tk 19 ?_;refine tk 20 ?_;refine tk 21 ?_;refine tk 22 ?_;refine tk 23 ?_;refine tk 24 ?_;refine tk 25 ?_;refine tk 26 ?_;refine tk 27 ?_;refine tk 28 ?_;refine tf 29 ?_;refine tf 30 ?_;refine tf 31 ?_;refine tf 32 ?_;refine tf 33 ?_;refine tf 34 ?_;refine tf 35 ?_;refine tf 36 ?_;refine tf 37 ?_;refine tf 38 ?_;refine tf 39 ?_;refine tf 40 ?_;refine tf 41 ?_;refine tf 42 ?_;refine tf 43 ?_;refine tf 44 ?_;refine tf 45 ?_;refine tk 46 ?_;refine wd ?_;clear hHeld;go_wp2;go_ret;exact ⟨by rw [HR.o,←HG.o,HBAD.o];rfl,HKP.o.drew⟩
      ·have d3:decide (top < hi)=false:=by simpa using q3
       by_cases hkz:k=0
       ·have hk9:¬ 0 < k:=by omega
        have hk8:¬ (0:Int) < (k:Int):=by omega
        have HBAD:=gi (show badS top (pvS set k) (lo,hi)=false by rw [hkz];simp [badS,q1,q2,q3,pvS]);have HKZ:=gi hkz;clear hkz;go_wp2_with fail
        refine rg (S:=fun w'=> w'.cell? ⟨b,off + k * 2,none⟩=some (H J lo)∧w'.cell? ⟨b,off + k * 2 + 1,none⟩=some (H J hi)) (fun _ k=> ⟨k.c e0,k.c e1⟩) fun kz hHeld=> ?_;refine tk 0 ?_;refine tk 1 ?_;refine tk 2 ?_;refine tk 3 ?_;refine tk 4 ?_;refine tk 5 ?_;refine tk 6 ?_;refine tk 7 ?_;refine tk 8 ?_;refine tk 9 ?_;refine tk 10 ?_;refine tk 11 ?_;refine tk 12 ?_;refine tk 13 ?_;refine tk 14 ?_;refine tk 15 ?_;refine tk 16 ?_;refine tk 17 ?_;refine tk 18 ?_;refine tk 19 ?_;refine tk 20 ?_;refine tk 21 ?_;refine tk 22 ?_;refine tk 23 ?_;refine tk 24 ?_;refine tk 25 ?_;refine tk 26 ?_;refine tk 27 ?_;refine tk 28 ?_;refine tk 29 ?_;refine tk 30 ?_;refine tk 31 ?_;refine tf 32 ?_;refine tf 33 ?_;refine tf 34 ?_;refine tf 35 ?_;refine tf 36 ?_;refine tf 37 ?_;refine tf 38 ?_;refine tf 39 ?_;refine tf 40 ?_;refine tf 41 ?_;refine tf 42 ?_;refine tf 43 ?_;refine tf 44 ?_;refine tk 45 ?_;refine tk 46 ?_;refine wd ?_;clear hHeld;go_wp2;go_roundw
        case rel=> exact ⟨k + 1,by omega,by go_num,by rw [HP1.o,←HG.o,HBAD.o];rfl,(fun h hh=> by rw [HP1.o] at hh;cases hh;have:=HT.o;omega),HKP.o.drew⟩
        case measure=> simp [intOf];omega
       ·obtain ⟨j,hj⟩:∃ j,k=j + 1:=⟨k - 1,by omega⟩;have hk9:0 < k:=by omega
        have hk8:(0:Int) < (k:Int):=by omega
        have hj2:j < set.length:=by omega
        have e2:=(HX.o j hj2).2;have hpj:=pvS_succ hj hj2;obtain ⟨s,hse⟩:∃ s,s=set[j]'hj2:=⟨_,rfl⟩;rw [←hse] at e2 hpj;obtain ⟨pl,ph⟩:=s;obtain ⟨hh0,hh1⟩:=HPV.o ph hpj;simp only at e2;have HPJ:=gi hpj;have hw1:IntKind.i64.wrap ((k:Int) - 1)=(j:Int):=by rw [IntWalk.i64_in _ (by omega)];omega
        have hw2:IntKind.i64.wrap (ph + 1)=ph + 1:=IntWalk.i64_in _ (by omega);have hj0:(0:Int)≤(j:Int):=by omega
        have hj1:(j:Int) < (set.length:Int):=by omega
        clear hse hpj hj hkz
        by_cases q4:lo≤ph + 1
        ·have d4:decide (lo≤ph + 1)=true:=by simpa using q4
         have HBAD:=gi (show badS top (pvS set k) (lo,hi)=true by rw [HPJ.o];simp [badS,q4]);go_wp2_with fail
         refine rg (S:=fun w'=> w'.cell? ⟨b,off + k * 2,none⟩=some (H J lo)∧w'.cell? ⟨b,off + k * 2 + 1,none⟩=some (H J hi)∧w'.cell? ⟨b,off + j * 2 + 1,none⟩=some (H J ph)) (fun _ k=> ⟨k.c e0,k.c e1,k.c e2⟩) fun kz hHeld=> ?_;refine tk 0 ?_;refine tk 1 ?_;refine tk 2 ?_;refine tk 3 ?_;refine tk 4 ?_;refine tk 5 ?_;refine tk 6 ?_;refine tk 7 ?_;refine tk 8 ?_;refine tk 9 ?_;refine tk 10 ?_;refine tk 11 ?_;refine tk 12 ?_;refine tk 13 ?_;refine tk 14 ?_;refine tk 15 ?_;refine tk 16 ?_;refine tk 17 ?_;refine tk 18 ?_;refine tk 19 ?_;refine tk 20 ?_;refine tk 21 ?_;refine tk 22 ?_;refine tk 23 ?_;refine tk 24 ?_;refine tk 25 ?_;refine tk 26 ?_;refine tk 27 ?_;refine tk 28 ?_;refine tk 29 ?_;refine tk 30 ?_;refine tk 31 ?_;refine tk 32 ?_;refine tk 33 ?_;refine tk 34 ?_;refine tk 35 ?_;refine tk 36 ?_;refine tk 37 ?_;refine tk 38 ?_;refine tk 39 ?_;refine tk 40 ?_;refine tk 41 ?_;refine tk 42 ?_;refine tk 43 ?_;refine tk 44 ?_;refine tk 45 ?_;refine tk 46 ?_;refine wd ?_;clear hHeld;go_wp2;go_ret;exact ⟨by rw [HR.o,←HG.o,HBAD.o];rfl,HKP.o.drew⟩
        ·have d4:decide (lo≤ph + 1)=false:=by simpa using q4
         have HBAD:=gi (show badS top (pvS set k) (lo,hi)=false by rw [HPJ.o];simp [badS,q1,q2,q3,q4]);go_wp2_with fail
         refine rg (S:=fun w'=> w'.cell? ⟨b,off + k * 2,none⟩=some (H J lo)∧w'.cell? ⟨b,off + k * 2 + 1,none⟩=some (H J hi)∧w'.cell? ⟨b,off + j * 2 + 1,none⟩=some (H J ph)) (fun _ k=> ⟨k.c e0,k.c e1,k.c e2⟩) fun kz hHeld=> ?_;refine tk 0 ?_;refine tk 1 ?_;refine tk 2 ?_;refine tk 3 ?_;refine tk 4 ?_;refine tk 5 ?_;refine tk 6 ?_;refine tk 7 ?_;refine tk 8 ?_;refine tk 9 ?_;refine tk 10 ?_;refine tk 11 ?_;refine tk 12 ?_;refine tk 13 ?_;refine tk 14 ?_;refine tk 15 ?_;refine tk 16 ?_;refine tk 17 ?_;refine tk 18 ?_;refine tk 19 ?_;refine tk 20 ?_;refine tk 21 ?_;refine tk 22 ?_;refine tk 23 ?_;refine tk 24 ?_;refine tk 25 ?_;refine tk 26 ?_;refine tk 27 ?_;refine tk 28 ?_;refine tk 29 ?_;refine tk 30 ?_;refine tk 31 ?_;refine tk 32 ?_;refine tk 33 ?_;refine tk 34 ?_;refine tk 35 ?_;refine tk 36 ?_;refine tk 37 ?_;refine tk 38 ?_;refine tk 39 ?_;refine tk 40 ?_;refine tk 41 ?_;refine tk 42 ?_;refine tk 43 ?_;refine tk 44 ?_;refine tk 45 ?_;refine tk 46 ?_;refine wd ?_;clear hHeld;go_wp2;go_roundw
         case rel=> exact ⟨k + 1,by omega,by go_num,by rw [HP1.o,←HG.o,HBAD.o];rfl,(fun h hh=> by rw [HP1.o] at hh;cases hh;have:=HT.o;omega),HKP.o.drew⟩
         case measure=> simp [intOf];omega
   ·obtain rfl:k=set.length:=by omega
    have H0:=gi (show R=true by rw [HR.o,←HGO.o,List.drop_length,spansGo]);go_wp2;go_ret;exact ⟨by rw [H0.o];rfl,HKP.o⟩
 ·have HR:=gi (show R=false by rw [hR0];simp [h64]);clear hR0 ht;go_enter Tryz.func139,Tryz.ntmps139
  go_wp2;go_ret;exact ⟨by rw [HR.o];rfl,Keeps.refl _ _⟩
def f1B (op lo hi:Int) (nk:Nat):Bool:=decide (op < 0) || (decide (11 < op) || (decide ((nk:Int) < lo) || (decide (0≤hi) && decide (hi < (nk:Int)))))
def f3B (mn mx mode:Int):Bool:=decide (mn < 0) || (decide (32 < mn) || (decide (mx < -1) || (decide (mx=0) || (decide (32 < mx) || ((decide (0 < mx) && decide (mx < mn)) || (decide (mode < 0) || decide (2 < mode)))))))
def f4B (mn mx mode:Int):Bool:=decide (mn≠0) || (decide (mx≠0) || decide (mode≠0))
def f2B (op:Int) (sp:Bool) (ns:Nat):Bool:=(op==1 && !sp) || (op !=1 && decide (0 < ns))
def f5B (op n caps:Int):Bool:=if op=5∨op=6∨op=10 then decide (n < 1) || decide (caps < n) else if op=11 then decide (n < 0) || decide (5 < n) else decide (n≠0)
def formedB (op:Int) (ns nk:Nat) (mn mx mode n:Int) (neg:Bool) (caps:Int) (sp:Bool):Bool:=
 !(f1B op (kidsP op).1 (kidsP op).2 nk) && (!(f2B op sp ns) && (!(if op=4 then f3B mn mx mode else f4B mn mx mode) && (!(f5B op n caps) && (!neg || (op==7 || op==8)))))
theorem rformed_any (m:MRe) (caps top:Int) (w:World) (k1:m.OK w) (ht:top≤2000000):
  Calls Tryz.prog 110 #[m.val,H J caps,H J top] w fun e w'=> e=.returned (F (formedB m.tree.op m.tree.set.length m.tree.kids.length m.tree.mn m.tree.mx m.tree.mode m.tree.n m.tree.neg caps (spansB m.tree.set top)))∧Keeps [] w w':=by
 obtain ⟨R,hR0⟩:∃ R,R=formedB m.tree.op m.tree.set.length m.tree.kids.length m.tree.mn m.tree.mx m.tree.mode m.tree.n m.tree.neg caps (spansB m.tree.set top):=⟨_,rfl⟩;rw [←hR0];obtain ⟨op,sa,sc,set,ka,kc,kids,mn,mx,mode,n,neg⟩:=m;replace hR0:R=formedB op set.length (MRe.trees kids).length mn mx mode n neg caps (spansB set top):=hR0;rw [MRe.trees_length] at hR0;unfold formedB at hR0;have HSP:=gi k1.spans;have hcap:=k1.nodes.cap;have hle:=k1.nodes.le;unfold maxLen at hcap;simp only [MRe.val];obtain ⟨B,Y,c0,c1,c2,c3,c4,c5,c6,c7,HYE,HBE,KY⟩:=pre1 w op sa sc set ka kc kids mn mx mode n neg;obtain ⟨lo,hlo⟩:∃ lo,lo=(kidsP op).1:=⟨_,rfl⟩;obtain ⟨hi,hhi⟩:∃ hi,hi=(kidsP op).2:=⟨_,rfl⟩;rw [←hlo,←hhi] at hR0;have HLO:=gi hlo;have HHI:=gi hhi;have HR0:=gi hR0;clear hlo hhi k1 hR0;go_enter Tryz.func110,Tryz.ntmps110
 go_upto_region 1 with fail
 rw [←HYE.o,←HBE.o];go_wp2_with fail
 refine Calls.mono (rkids_any op Y) ?_;rintro e w' ⟨rfl,rfl⟩;rw [←HLO.o,←HHI.o];go_upto_region 2 with fail
 go_cut [40] (fun s40 wx=> ∃ b:Bool,s40=F b∧f1B op lo hi kids.length=b∧Y=wx)
 case first=>
  by_cases h1:op < 0
  ·go_wp2;go_meet;exact ⟨true,rfl,by simp [f1B,h1] <;> omega,rfl⟩
  ·by_cases h2:11 < op
   ·go_wp2;go_meet;exact ⟨true,rfl,by simp [f1B,h2] <;> omega,rfl⟩
   ·by_cases h3:(kids.length:Int) < lo
    ·go_wp2;go_meet;exact ⟨true,rfl,by simp [f1B,h3] <;> omega,rfl⟩
    ·by_cases h4:0≤hi
     ·by_cases h4b:hi < (kids.length:Int)
      ·go_wp2;go_meet;exact ⟨true,rfl,by simp [f1B,h4,h4b] <;> omega,rfl⟩
      ·go_wp2;go_meet;exact ⟨false,rfl,by simp [f1B,h1,h2,h3,h4,h4b] <;> omega,rfl⟩
     ·go_wp2;go_meet;exact ⟨false,rfl,by simp [f1B,h1,h2,h3] <;> omega,rfl⟩
 case rest=>
 obtain ⟨b,rfl,hf1,rfl⟩:=hcut
 cases b with
 | true=>
  have HR:=gi (show R=false by rw [HR0.o,hf1];rfl);clear hf1;go_wp2;go_ret;exact ⟨by rw [HR.o];rfl,KY.o⟩
 | false=>
 have HR1:=gi (show R=(!(f2B op (spansB set top) set.length) && (!(if op=4 then f3B mn mx mode else f4B mn mx mode) && (!(f5B op n caps) && (!neg || (op==7 || op==8))))) by rw [HR0.o,hf1];rfl);clear hf1;obtain ⟨sp,hsp⟩:∃ sp,sp=spansB set top:=⟨_,rfl⟩;have HSB:=gi (show ∀ W,Keeps [] w W→Calls Tryz.prog 139 #[M sa set.length sc,H J top] W fun e w'=> e=.returned (F sp)∧Keeps [] W w' from fun W h=> by rw [hsp];exact rspans_any sa sc set top W (HSP.o.keep h) ht);have HR2:=gi (show R=(!(f2B op sp set.length) && (!(if op=4 then f3B mn mx mode else f4B mn mx mode) && (!(f5B op n caps) && (!neg || (op==7 || op==8))))) by rw [HR1.o,hsp]);clear hsp;go_upto_region 4 with fail
 go_cut [61] (fun s61 wx=> ∃ b:Bool,s61=F b∧f2B op sp set.length=b∧Keeps [] Y wx)
 case first=>
  as_aux_lemma=>
  by_cases h1:op=1
  ·subst h1;go_wp2_with fail
   refine Calls.mono (HSB.o _ KY.o) ?_;rintro e w2 ⟨rfl,hk2⟩;have K2:=gi hk2;have e0:=hk2.c c0;have e1:=hk2.c c1;clear hk2
   cases sp with
   | true=>
    go_wp2;go_meet;exact ⟨false,rfl,rfl,K2.o⟩
   | false=>
    go_wp2;go_meet;exact ⟨true,rfl,rfl,K2.o⟩
  ·have h1b:(op==1)=false:=by simpa using h1
   have h1c:(op !=1)=true:=by simpa using h1
   by_cases h2:0 < set.length
   ·go_wp2;go_meet;exact ⟨true,rfl,by rw [f2B,h1b,h1c,decide_eq_true h2];rfl,Keeps.refl _ _⟩
   ·go_wp2;go_meet;exact ⟨false,rfl,by rw [f2B,h1b,h1c,decide_eq_false h2];rfl,Keeps.refl _ _⟩
 case rest=>
 obtain ⟨b,rfl,hf2,hkw⟩:=hcut;have KW:=gi (KY.o.trans hkw);obtain ⟨d0,d1,d2,d3,d4,d5,d6,d7⟩:=hkw.c8 c0 c1 c2 c3 c4 c5 c6 c7;obtain ⟨wx,hwx⟩:∃ wx,wx=wc:=⟨_,rfl⟩;clear hkw c0 c1 c2 c3 c4 c5 c6 c7
 cases b with
 | true=>
  have HR:=gi (show R=false by rw [HR2.o,hf2];rfl);clear hf2;go_wp2;go_ret;exact ⟨by rw [HR.o];rfl,KW.o⟩
 | false=>
 have HR3:=gi (show R=(!(if op=4 then f3B mn mx mode else f4B mn mx mode) && (!(f5B op n caps) && (!neg || (op==7 || op==8)))) by rw [HR2.o,hf2];rfl);clear hf2
 by_cases h4:op=4
 ·as_aux_lemma=>
  subst h4;go_upto_region 7 with fail
  go_cut [109] (fun s109 wy=> ∃ b:Bool,s109=F b∧f3B mn mx mode=b∧wc=wy)
  case first=>
   by_cases h5:mn < 0
   ·go_wp2;go_meet;exact ⟨true,rfl,by simp [f3B,h5] <;> omega,rfl⟩
   ·by_cases h6:32 < mn
    ·go_wp2;go_meet;exact ⟨true,rfl,by simp [f3B,h6] <;> omega,rfl⟩
    ·by_cases h7:mx < -1
     ·go_wp2;go_meet;exact ⟨true,rfl,by simp [f3B,h7] <;> omega,rfl⟩
     ·by_cases h8:mx=0
      ·subst h8;go_wp2;go_meet;exact ⟨true,rfl,by simp [f3B] <;> omega,rfl⟩
      ·have h8b:(mx==0)=false:=by simpa using h8
       by_cases h9:32 < mx
       ·go_wp2;go_meet;exact ⟨true,rfl,by simp [f3B,h8,h9] <;> omega,rfl⟩
       ·by_cases h10:0 < mx
        ·by_cases h10b:mx < mn
         ·go_wp2;go_meet;exact ⟨true,rfl,by simp [f3B,h8,h10,h10b] <;> omega,rfl⟩
         ·by_cases h11:mode < 0
          ·go_wp2;go_meet;exact ⟨true,rfl,by simp [f3B,h8,h10,h11] <;> omega,rfl⟩
          ·by_cases h12:2 < mode
           ·go_wp2;go_meet;exact ⟨true,rfl,by simp [f3B,h8,h10,h12] <;> omega,rfl⟩
           ·go_wp2;go_meet;exact ⟨false,rfl,by simp [f3B,h5,h6,h7,h8,h9,h10,h10b,h11,h12] <;> omega,rfl⟩
        ·by_cases h13:mode < 0
         ·go_wp2;go_meet;exact ⟨true,rfl,by simp [f3B,h8,h13] <;> omega,rfl⟩
         ·by_cases h14:2 < mode
          ·go_wp2;go_meet;exact ⟨true,rfl,by simp [f3B,h8,h14] <;> omega,rfl⟩
          ·go_wp2;go_meet;exact ⟨false,rfl,by simp [f3B,h5,h6,h7,h8,h9,h13,h14] <;> omega,rfl⟩
  case rest=>
  obtain ⟨b,rfl,hf3,rfl⟩:=hcut
  cases b with
  | true=>
   have HR:=gi (show R=false by rw [HR3.o,if_pos rfl,hf3];rfl);clear hf3;go_wp2;go_ret;exact ⟨by rw [HR.o];rfl,KW.o⟩
  | false=>
   replace HR3:=gi (show R=(!(f5B 4 n caps) && (!neg || false)) by rw [HR3.o,if_pos rfl,hf3];rfl);clear hf3
   by_cases hn:n=0
   ·subst hn
    cases neg with
    | true=>
     have HR:=gi (show R=false by rw [HR3.o];simp [f5B]);go_wp2;go_ret;exact ⟨by rw [HR.o];rfl,KW.o⟩
    | false=>
     have HR:=gi (show R=true by rw [HR3.o];simp [f5B]);go_wp2;go_ret;exact ⟨by rw [HR.o];rfl,KW.o⟩
   ·have hnb:(n==0)=false:=by simpa using hn
    have hnc:(n !=0)=true:=by simpa using hn
    have HR:=gi (show R=false by rw [HR3.o];simp [f5B,hn]);go_wp2;go_ret;exact ⟨by rw [HR.o];rfl,KW.o⟩
 ·as_aux_lemma=>
  have h4b:(op==4)=false:=by simpa using h4
  by_cases g1:mn=0
  ·subst g1
   by_cases g2:mx=0
   ·subst g2
    by_cases g3:mode=0
    ·subst g3;replace HR3:=gi (show R=(!(f5B op n caps) && (!neg || (op==7 || op==8))) by rw [HR3.o,if_neg h4];rfl)
     by_cases hA:op=5∨op=6∨op=10
     ·rcases hA with rfl | rfl | rfl
      all_goals
       by_cases k1:n < 1
       ·have HR:=gi (show R=false by rw [HR3.o];simp [f5B,k1]);go_wp2;go_ret;exact ⟨by rw [HR.o];rfl,KW.o⟩
       ·by_cases k2:caps < n
        ·have HR:=gi (show R=false by rw [HR3.o];simp [f5B,k2]);go_wp2;go_ret;exact ⟨by rw [HR.o];rfl,KW.o⟩
        ·have k1':1≤n:=by omega
         have k2':n≤caps:=by omega
         cases neg with
         | true=>
          have HR:=gi (show R=false by rw [HR3.o];simp [f5B]);go_wp2;go_ret;exact ⟨by rw [HR.o];rfl,KW.o⟩
         | false=>
          have HR:=gi (show R=true by rw [HR3.o];simp [f5B,k1',k2']);go_wp2;go_ret;exact ⟨by rw [HR.o];rfl,KW.o⟩
     ·by_cases hB:op=11
      ·subst hB
       by_cases k1:n < 0
       ·have HR:=gi (show R=false by rw [HR3.o];simp [f5B,k1]);go_wp2;go_ret;exact ⟨by rw [HR.o];rfl,KW.o⟩
       ·by_cases k2:5 < n
        ·have HR:=gi (show R=false by rw [HR3.o];simp [f5B,k2]);go_wp2;go_ret;exact ⟨by rw [HR.o];rfl,KW.o⟩
        ·have k1':0≤n:=by omega
         have k2':n≤5:=by omega
         cases neg with
         | true=>
          have HR:=gi (show R=false by rw [HR3.o];simp [f5B]);go_wp2;go_ret;exact ⟨by rw [HR.o];rfl,KW.o⟩
         | false=>
          have HR:=gi (show R=true by rw [HR3.o];simp [f5B,k1',k2']);go_wp2;go_ret;exact ⟨by rw [HR.o];rfl,KW.o⟩
      ·have b5:(op==5)=false:=by simp;omega
       have b6:(op==6)=false:=by simp;omega
       have b10:(op==10)=false:=by simp;omega
       have b11:(op==11)=false:=by simp;omega
       by_cases hn:n=0
       ·subst hn;replace HR3:=gi (show R=(!neg || (op==7 || op==8)) by rw [HR3.o,f5B,if_neg hA,if_neg hB];simp)
        cases neg with
        | false=>
         have HR:=gi (show R=true by rw [HR3.o];rfl);go_wp2;go_ret;exact ⟨by rw [HR.o];rfl,KW.o⟩
        | true=>
         by_cases o7:op=7
         ·subst o7;have HR:=gi (show R=true by rw [HR3.o];rfl);go_wp2;go_ret;exact ⟨by rw [HR.o];rfl,KW.o⟩
         ·by_cases o8:op=8
          ·subst o8;have HR:=gi (show R=true by rw [HR3.o];rfl);go_wp2;go_ret;exact ⟨by rw [HR.o];rfl,KW.o⟩
          ·have b7:(op==7)=false:=by simpa using o7
           have b8:(op==8)=false:=by simpa using o8
           have HR:=gi (show R=false by rw [HR3.o,b7,b8];rfl);go_wp2;go_ret;exact ⟨by rw [HR.o];rfl,KW.o⟩
       ·have hnb:(n==0)=false:=by simpa using hn
        have hnc:(n !=0)=true:=by simpa using hn
        have HR:=gi (show R=false by rw [HR3.o,f5B,if_neg hA,if_neg hB];simp [hn]);go_wp2;go_ret;exact ⟨by rw [HR.o];rfl,KW.o⟩
    ·have hgb:(mode !=0)=true:=by simpa using g3
     have HR:=gi (show R=false by rw [HR3.o,if_neg h4];simp [f4B,g3]);go_wp2;go_ret;exact ⟨by rw [HR.o];rfl,KW.o⟩
   ·have hgb:(mx !=0)=true:=by simpa using g2
    have HR:=gi (show R=false by rw [HR3.o,if_neg h4];simp [f4B,g2]);go_wp2;go_ret;exact ⟨by rw [HR.o];rfl,KW.o⟩
  ·have hgb:(mn !=0)=true:=by simpa using g1
   have HR:=gi (show R=false by rw [HR3.o,if_neg h4];simp [f4B,g1]);go_wp2;go_ret;exact ⟨by rw [HR.o];rfl,KW.o⟩
theorem badS_first {top:Int} {pv:Option Int} {s:Int × Int} (h:badS top pv s=false):0≤s.1∧s.1≤s.2∧s.2≤top:=by
 unfold badS at h;simp only [Bool.or_eq_false_iff,decide_eq_false_iff_not] at h;omega
theorem badS_next {top p:Int} {s:Int × Int} (h:badS top (some p) s=false):p + 2≤s.1:=by
 unfold badS at h;simp only [Bool.or_eq_false_iff,decide_eq_false_iff_not] at h;omega
theorem spansGo_ok {top:Int} (ht:top≤1114111):∀ (l:List (Int × Int)) (pv:Option Int),spansGo top pv l=true→SpansOK l
 | [],_,_=> trivial
 | [s],pv,h=> by
  rw [spansGo,Bool.and_eq_true,Bool.not_eq_true'] at h;have h1:=badS_first h.1;exact ⟨h1.1,h1.2.1,by omega⟩
 | s::t::r,pv,h=> by
  rw [spansGo,Bool.and_eq_true,Bool.not_eq_true'] at h;have h1:=badS_first h.1;have ih:=spansGo_ok ht (t::r) (some s.2) h.2;have h2:=h.2;rw [spansGo,Bool.and_eq_true,Bool.not_eq_true'] at h2;exact ⟨h1.1,h1.2.1,badS_next h2.1,ih⟩
end Go.Proofs.YtjnlkjlbejelgaaGreat
