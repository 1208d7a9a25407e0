/- Part 5 of the proof. No condition: every lemma says its own. -/
import Derived.BigQuiet
import Derived.Lib.QuietBelow
import Derived.Test.YtjnlkjlbejelgaaGreatLad
namespace Go.Proofs.YtjnlkjlbejelgaaGreat
open Go.RowKit
open Go.Value renaming int→H,slice→M,bool→F
open Go.IntKind renaming i64→J
open Go.RowKit Go.Sort Go.BigFrame
set_option maxRecDepth 100000
set_option maxHeartbeats 16000000
def SpansOK:List (Int × Int)→Prop
 | []=> True
 | [s]=> 0≤s.1∧s.1≤s.2∧s.2≤1114111
 | s::t::r=> 0≤s.1∧s.1≤s.2∧s.2 + 2≤t.1∧SpansOK (t::r)
structure NodeOK (op:Int) (set:List (Int × Int)) (nk:Nat) (mn mx mode n:Int) (neg:Bool):Prop where
 hop:0≤op∧op≤11
 hone:op=4∨op=5∨op=7∨op=8∨op=9→nk=1
 htwo:op=2∨op=3→2≤nk
 hcond:op=10→nk=2
 hleaf:op=0∨op=1∨op=6∨op=11→nk=0
 hrep:op=4→0≤mn∧mn≤32∧-1≤mx∧mx≠0∧mx≤32∧(0 < mx→mn≤mx)∧0≤mode∧mode≤2
 hnrep:op≠4→mn=0∧mx=0∧mode=0
 hset:op=1→SpansOK set∧set.length≤64
 hnset:op≠1→set=[]
 hnum:op=5∨op=6∨op=10→1≤n
 hass:op=11→0≤n∧n≤5
 hnnum:¬ (op=5∨op=6∨op=10∨op=11)→n=0
 hneg:neg=true→op=7∨op=8
inductive Tree.WF:Tree→Prop
 | mk {op set kids mn mx mode n neg} (h:NodeOK op set kids.length mn mx mode n neg) (hk:∀ k,k∈kids→Tree.WF k):Tree.WF (.node op set kids mn mx mode n neg)
theorem Tree.WF.node {op set kids mn mx mode n neg} (h:Tree.WF (.node op set kids mn mx mode n neg)):NodeOK op set kids.length mn mx mode n neg:=by cases h;assumption
theorem Tree.WF.kid {op set kids mn mx mode n neg} (h:Tree.WF (.node op set kids mn mx mode n neg)) {k:Tree} (hk:k∈kids):k.WF:=by cases h with | mk _ h=> exact h k hk
theorem wf_node {op sa sc set ka kc kids mn mx mode n neg} (h:(MRe.node op sa sc set ka kc kids mn mx mode n neg).tree.WF):NodeOK op set kids.length mn mx mode n neg:=by
 have:=h.node
 rw [MRe.trees_length] at this;exact this
theorem wf_kid {op sa sc set ka kc kids mn mx mode n neg} (h:(MRe.node op sa sc set ka kc kids mn mx mode n neg).tree.WF) {k:MRe} (hk:k∈kids):k.tree.WF:=
 h.kid (by rw [MRe.trees_eq];exact List.mem_map_of_mem hk)
theorem single1_of (m:MRe) (b:Bool) (w:World) (h:∀ W,Keeps [] w W→Calls Tryz.prog 120 #[m.val] W fun e w'=> e=.returned (F b)∧Keeps [] W w'):
  Calls Tryz.prog 143 #[m.val] w fun e w'=> e=.returned (F (!b))∧Keeps [] w w':=by
 have HH:=gi h;clear h;obtain ⟨op1,sa1,sc1,set1,ka1,kc1,kids1,mn1,mx1,mode1,n1,neg1⟩:=m;simp only [MRe.val] at HH ⊢;have hnot:∀ (x:Bool) (w:World),(Op.unary .not (F x)).run Tryz.prog w=.ok (F (!x)) w:=fun _ _=> rfl;go_enter Tryz.func143,Tryz.ntmps143
 go_wp2_with fail
 refine Calls.mono (HH.o _ (Keeps.a1 w _)) ?_;rintro e w2 ⟨rfl,hk⟩;have HK:=gi ((Keeps.a1 w _).trans hk);clear hk;go_wp2;go_ret;exact ⟨rfl,HK.o⟩
theorem single_any (m:MRe):∀ (w:World),m.OK w→m.tree.WF→
  Calls Tryz.prog 120 #[m.val] w fun e w'=> e=.returned (F (singleT m.tree))∧Keeps [] w w':=by
 induction m using MRe.induct with
 | h op sa sc set ka kc kids mn mx mode n neg ih=>
  intro w k1 hwf;have hno:=wf_node hwf;have hT:singleT (MRe.node op sa sc set ka kc kids mn mx mode n neg).tree=singleT (.node op set (MRe.trees kids) mn mx mode n neg):=rfl;rw [hT];have HI:=gi (fun k (hk:k∈kids) W (h:Keeps [] w W)=> ih k hk W ((k1.kid hk).keep h) (wf_kid hwf hk));have HK:=gi k1.kids;have HNO:=gi hno;have hcap:=k1.nodes.cap;have hle:=k1.nodes.le;unfold maxLen at hcap;clear ih k1 hwf hno hT;simp only [MRe.val]
  by_cases h3:op=3
  ·have hR:singleT (.node op set (MRe.trees kids) mn mx mode n neg)=false:=by rw [singleT,if_pos h3]
   rw [hR];subst h3;clear hR;go_enter Tryz.func120,Tryz.ntmps120
   go_wp2;go_ret;exact ⟨rfl,Keeps.a1 _ _⟩
  ·by_cases h2:op=2∨op=10∨op=5
   ·have hR:singleT (.node op set (MRe.trees kids) mn mx mode n neg)=!((MRe.trees kids).any fun t=> !singleT t):=by rw [singleT,if_neg h3,if_pos h2,singleAll_any]
    rw [hR];have HC:=gi (fun W (h:Keeps [] w W)=> containsFunc_any 143 #[] (fun t=> !singleT t) ka kc kids W enters_single1 (HK.o.keep h) fun k hk W' h'=> single1_of k _ W' fun W2 h2=> HI.o k hk W2 ((h.trans h').trans h2));have hnot:∀ (x:Bool) (w:World),(Op.unary .not (F x)).run Tryz.prog w=.ok (F (!x)) w:=fun _ _=> rfl;obtain ⟨q,hq⟩:∃ q,q=((MRe.trees kids).any fun t=> !singleT t):=⟨_,rfl⟩;rw [←hq] at HC ⊢;clear hR hq HI h3
    rcases h2 with rfl | rfl | rfl
    all_goals
     go_enter Tryz.func120,Tryz.ntmps120
     go_wp2_with fail
     refine Calls.mono (HC.o _ (Keeps.a1 w _)) ?_;rintro e w2 ⟨rfl,hk⟩;have HK:=gi ((Keeps.a1 w _).trans hk);clear hk;go_wp2;go_ret;exact ⟨rfl,HK.o⟩
   ·by_cases h4:op=4
    ·have hlen:kids.length=1:=HNO.o.hone (.inl h4);have hR:singleT (.node op set (MRe.trees kids) mn mx mode n neg)=(mode==2 || (mn==mx && singleHd (MRe.trees kids))):=by rw [singleT,if_neg h3,if_neg h2,if_pos h4]
     rw [hR];subst h4
     by_cases hm:mode=2
     ·have hR2:(mode==2 || (mn==mx && singleHd (MRe.trees kids)))=true:=by simp [hm]
      rw [hR2];clear hR hR2 h3 h2;go_enter Tryz.func120,Tryz.ntmps120
      go_wp2;go_ret;exact ⟨by simp,Keeps.a1 _ _⟩
     ·by_cases he:mn=mx
      ·obtain ⟨b,off,rfl,hb,hx⟩:=HK.o.nodes.kid (by omega);have hx0:=hx 0 (by omega);have HC:=gi (HI.o kids[0] (List.getElem_mem (by omega)));have hR2:(mode==2 || (mn==mx && singleHd (MRe.trees kids)))=singleT kids[0].tree:=by
        have h1:(mode==2)=false:=by simpa using hm
        have h2:(mn==mx)=true:=by simpa using he
        rw [h1,h2]
        match kids,hlen with
        | [x],_=> rfl
       rw [hR2];obtain ⟨q,hq⟩:∃ q,q=singleT kids[0].tree:=⟨_,rfl⟩;rw [←hq] at HC ⊢
       generalize kids[0]=k0 at *
       obtain ⟨op1,sa1,sc1,set1,ka1,kc1,kids1,mn1,mx1,mode1,n1,neg1⟩:=k0;have g:=hx0.node;rw [Nat.zero_mul,Nat.add_zero] at g;obtain ⟨c0,c1,c2,c3,c4,c5,c6,c7⟩:=id g;simp only [MRe.val] at HC;have hln:(kids.length:Int)=1:=by omega
       clear g hx0 hx hR hR2 hq HI h3 h2;go_enter Tryz.func120,Tryz.ntmps120
       go_wp2_with fail
       refine Calls.mono (HC.o _ (Keeps.a1 w _)) ?_;rintro e w2 ⟨rfl,hk⟩;have HK:=gi ((Keeps.a1 w _).trans hk);clear hk;go_wp2;go_ret;exact ⟨by simp [hm],HK.o⟩
      ·have hR2:(mode==2 || (mn==mx && singleHd (MRe.trees kids)))=false:=by simp [hm,he]
       rw [hR2];clear hR hR2 h3 h2;go_enter Tryz.func120,Tryz.ntmps120
       go_wp2;go_ret;exact ⟨by simp [hm],Keeps.a1 _ _⟩
    ·have hR:singleT (.node op set (MRe.trees kids) mn mx mode n neg)=true:=by rw [singleT,if_neg h3,if_neg h2,if_neg h4]
     rw [hR];simp only [not_or] at h2;obtain ⟨n2,n10,n5⟩:=h2;clear hR;go_enter Tryz.func120,Tryz.ntmps120
     go_wp2;go_ret;exact ⟨rfl,Keeps.a1 _ _⟩
def nbO (p:Tree→Tree→Bool):List Tree→Option Nat
 | x::y::r=> if p x y=true then some 0 else (nbO p (y::r)).map (· + 1)
 | _=> none
theorem nbO_drop (p:Tree→Tree→Bool):∀ (l:List Tree) (k:Nat),(∀ i (h:i + 1 < l.length),i < k→p l[i] l[i + 1]=false)→nbO p l=(nbO p (l.drop k)).map (· + k)
 | l,0,_=> by simp
 | [],k + 1,_=> by simp [nbO]
 | [x],k + 1,_=> by simp [nbO]
 | x::y::r,k + 1,h=> by
  have h0:p x y=false:=h 0 (by simp) (by omega);have hr:=nbO_drop p (y::r) k (fun i hi hk=> h (i + 1) (by simpa using hi) (by omega));rw [nbO,if_neg (by simp [h0]),hr,List.drop_succ_cons]
  cases nbO p ((y::r).drop k) with
  | none=> rfl
  | some i=> simp;omega
theorem nbO_some {p:Tree→Tree→Bool} {l:List Tree} {k:Nat} (hk:k + 1 < l.length) (h:∀ i (h:i + 1 < l.length),i < k→p l[i] l[i + 1]=false) (hp:p l[k] l[k + 1]=true):nbO p l=some k:=by
 rw [nbO_drop p l k h,List.drop_eq_getElem_cons (by omega),List.drop_eq_getElem_cons (by omega),nbO,if_pos hp]
 simp
theorem nbO_none {p:Tree→Tree→Bool} {l:List Tree} (h:∀ i (h:i + 1 < l.length),p l[i] l[i + 1]=false):nbO p l=none:=by
 rw [nbO_drop p l l.length (fun i hi _=> h i hi),List.drop_length];rfl
theorem nbO_lt {p:Tree→Tree→Bool}:∀ {l:List Tree} {k:Nat},nbO p l=some k→k + 1 < l.length
 | [],k,h=> by simp [nbO] at h
 | [x],k,h=> by simp [nbO] at h
 | x::y::r,k,h=> by
  rw [nbO] at h
  split at h
  ·cases h;simp
  ·cases hn:nbO p (y::r) with
   | none=> rw [hn] at h;simp at h
   | some i=>
    rw [hn] at h;simp at h
    have:=nbO_lt hn
    simp at this ⊢;omega
def NbPost (Inv:World→Prop) (Fin:Nat→World→Prop) (o:Option Nat) (e:Ending) (w':World):Prop:=
 match o with
 | none=> e=.returned (H J (-1))∧Inv w'
 | some i=> e=.returned (H J i)∧Fin i w'
theorem NbPost.of_none {Inv:World→Prop} {Fin:Nat→World→Prop} {o:Option Nat} {e:Ending} {w':World} (h:o=none) (he:e=.returned (H J (-1))) (hi:Inv w'):NbPost Inv Fin o e w':=by subst h;exact ⟨he,hi⟩
theorem NbPost.of_some {Inv:World→Prop} {Fin:Nat→World→Prop} {o:Option Nat} {i:Nat} {e:Ending} {w':World} (h:o=some i) (he:e=.returned (H J i)) (hi:Fin i w'):NbPost Inv Fin o e w':=by subst h;exact ⟨he,hi⟩
def TestOK (K:Nat) (cap:Array Value) (p:Tree→Tree→Bool) (kids:List MRe) (Inv:World→Prop) (Fin:Nat→World→Prop):Prop:=
 ∀ i (h:i + 1 < kids.length),∀ W,Inv W→Calls Tryz.prog K (#[kids[i].val,kids[i + 1].val] ++ cap) W fun e w'=> e=.returned (F (p kids[i].tree kids[i + 1].tree))∧(p kids[i].tree kids[i + 1].tree=false→Inv w')∧(p kids[i].tree kids[i + 1].tree=true→Fin i w')
theorem neighbors_any (K:Nat) (cap:Array Value) (p:Tree→Tree→Bool) (ka:Option Addr) (kc:Nat) (kids:List MRe) (w:World) (Inv:World→Prop) (Fin:Nat→World→Prop) (he:Enters K)
  (hi:Inv w) (hin:∀ W,Inv W→NodesIn W ka kc kids) (hfn:∀ i W,Fin i W→NodesIn W ka kc kids) (hdr:∀ W,Inv W→Inv W.drew) (hf:TestOK K cap p kids Inv Fin):
  Calls Tryz.prog 142 #[M ka kids.length kc,.func (Fn.func K) #[] cap] w (NbPost Inv Fin (nbO p (MRe.trees kids))):=by
 have hcap:=(hin w hi).cap;have hle:=(hin w hi).le;unfold maxLen at hcap;have HI:=gi hi;have HIN:=gi hin;have HDR:=gi hdr;have HFN:=gi hfn;have HF:=gi hf;unfold Enters at he;clear hi hin hdr hf hfn;go_enter Tryz.func142,Tryz.ntmps142
 go_wp2
 go_loopw [5] (fun i wr=> ∃ k:Nat,i=H J ((k + 1:Nat):Int)∧(k + 1≤kids.length∨k=0)∧(∀ i (h:i + 1 < (MRe.trees kids).length),i < k→p (MRe.trees kids)[i] (MRe.trees kids)[i + 1]=false)∧Inv wr) (fun i _=> kids.length - (intOf i).toNat)
 case atStart=> exact ⟨0,rfl,.inr rfl,by intro i _ h;omega,HI.o⟩
 case round=>
  obtain ⟨k,rfl,hkl,hpk,hinv⟩:=hrel;have HP:=gi hpk;have HINV:=gi hinv
  by_cases hlt:k + 1 < kids.length
  ·obtain ⟨b,off,rfl,hb,hx⟩:=(HIN.o _ hinv).kid (by omega);have hx0:=hx k (by omega);have hx1:=hx (k + 1) hlt;have HC:=gi (HF.o k hlt _ (HDR.o _ hinv));have hlt':k + 1 < (MRe.trees kids).length:=by rw [MRe.trees_length];exact hlt
   have hsome:=fun h=> nbO_some (p:=p) hlt' HP.o h;have hall:p (MRe.trees kids)[k] (MRe.trees kids)[k + 1]=false→∀ i (h:i + 1 < (MRe.trees kids).length),i < k + 1→p (MRe.trees kids)[i] (MRe.trees kids)[i + 1]=false:=fun h i hi hk=> by
    rcases Nat.lt_or_eq_of_le (Nat.le_of_lt_succ hk) with h1 | h1
    ·exact HP.o i hi h1
    ·subst h1;exact h
   rw [trees_getElem kids k (by omega),trees_getElem kids (k + 1) hlt] at hsome hall;have HSO:=gi hsome;have HAL:=gi hall;have hcell:∀ W,NodesIn W (some ⟨b,off,none⟩) kc kids→At8 W b (off + k * 8) kids[k]∧At8 W b (off + (k + 1) * 8) kids[k + 1]:=fun W hW=> by
    obtain ⟨b',off',h1,_,h2⟩:=hW.kid (by omega)
    cases h1
    exact ⟨h2 k (by omega),h2 (k + 1) hlt⟩
   have HCELL:=gi hcell;clear hcell
   generalize kids[k]=m0 at *
   generalize kids[k + 1]=m1 at *
   obtain ⟨q,hq⟩:∃ q,q=p m0.tree m1.tree:=⟨_,rfl⟩;rw [←hq] at HC HSO HAL;obtain ⟨op1,sa1,sc1,set1,ka1,kc1,kids1,mn1,mx1,mode1,n1,neg1⟩:=m0;obtain ⟨op2,sa2,sc2,set2,ka2,kc2,kids2,mn2,mx2,mode2,n2,neg2⟩:=m1;have g:=hx0.node;obtain ⟨c0,c1,c2,c3,c4,c5,c6,c7⟩:=id g;have g:=hx1.node;obtain ⟨d0,d1,d2,d3,d4,d5,d6,d7⟩:=id g;simp only [MRe.val] at HC;have hk1:((k + 1:Nat):Int)=(k:Int) + 1:=by omega
   rw [hk1];have hlti:(k:Int) + 1 < (kids.length:Int):=by omega
   have hb0:(0:Int)≤(k:Int):=by omega
   have hb1:(k:Int) < (kids.length:Int):=by omega
   have hb2:(0:Int)≤(k:Int) + 1:=by omega
   have hb3:((k:Int) + 1).toNat=k + 1:=by omega
   have hb4:(k:Int) + 1 - 1=(k:Int):=by omega
   have hw0:IntKind.i64.wrap (k:Int)=(k:Int):=IntWalk.i64_in _ (by omega);have hw2:IntKind.i64.wrap ((k:Int) + 1)=(k:Int) + 1:=IntWalk.i64_in _ (by omega);have hw1:IntKind.i64.wrap ((k:Int) + 1 - 1)=(k:Int):=by rw [IntWalk.i64_in _ (by omega)];omega
   clear g hx0 hx1 hx hpk hinv hq hsome hall HF hk1 HI;go_wp2
   go_region_held3 (fun w'=> (w'.cell? ⟨b,off + k * 8,none⟩=some (H J op1)∧w'.cell? ⟨b,off + k * 8 + 1,none⟩=some (M sa1 set1.length sc1)∧w'.cell? ⟨b,off + k * 8 + 2,none⟩=some (M ka1 kids1.length kc1)∧w'.cell? ⟨b,off + k * 8 + 3,none⟩=some (H J mn1)∧w'.cell? ⟨b,off + k * 8 + 4,none⟩=some (H J mx1)∧w'.cell? ⟨b,off + k * 8 + 5,none⟩=some (H J mode1)∧w'.cell? ⟨b,off + k * 8 + 6,none⟩=some (H J n1)∧w'.cell? ⟨b,off + k * 8 + 7,none⟩=some (F neg1))∧(w'.cell? ⟨b,off + (k + 1) * 8,none⟩=some (H J op2)∧w'.cell? ⟨b,off + (k + 1) * 8 + 1,none⟩=some (M sa2 set2.length sc2)∧w'.cell? ⟨b,off + (k + 1) * 8 + 2,none⟩=some (M ka2 kids2.length kc2)∧w'.cell? ⟨b,off + (k + 1) * 8 + 3,none⟩=some (H J mn2)∧w'.cell? ⟨b,off + (k + 1) * 8 + 4,none⟩=some (H J mx2)∧w'.cell? ⟨b,off + (k + 1) * 8 + 5,none⟩=some (H J mode2)∧w'.cell? ⟨b,off + (k + 1) * 8 + 6,none⟩=some (H J n2)∧w'.cell? ⟨b,off + (k + 1) * 8 + 7,none⟩=some (F neg2)))
    (with_reducible first | exact ⟨⟨((Keeps.refl [] wr).drew).c c0,((Keeps.refl [] wr).drew).c c1,((Keeps.refl [] wr).drew).c c2,((Keeps.refl [] wr).drew).c c3,((Keeps.refl [] wr).drew).c c4,((Keeps.refl [] wr).drew).c c5,((Keeps.refl [] wr).drew).c c6,((Keeps.refl [] wr).drew).c c7⟩,⟨((Keeps.refl [] wr).drew).c d0,((Keeps.refl [] wr).drew).c d1,((Keeps.refl [] wr).drew).c d2,((Keeps.refl [] wr).drew).c d3,((Keeps.refl [] wr).drew).c d4,((Keeps.refl [] wr).drew).c d5,((Keeps.refl [] wr).drew).c d6,((Keeps.refl [] wr).drew).c d7⟩⟩ | exact ⟨⟨E1.o.c0,E1.o.c1,E1.o.c2,E1.o.c3,E1.o.c4,E1.o.c5,E1.o.c6,E1.o.c7⟩,⟨E2.o.c0,E2.o.c1,E2.o.c2,E2.o.c3,E2.o.c4,E2.o.c5,E2.o.c6,E2.o.c7⟩⟩ | fail)
    (first | (refine Calls.mono HC.o ?_;rintro e w2 ⟨rfl,h0,h1⟩;have H0:=gi h0;have H1:=gi h1;have hn:NodesIn w2 (some ⟨b,off,none⟩) kc kids:=(by cases q with | true=> exact HFN.o _ _ (h1 rfl) | false=> exact HIN.o _ (h0 rfl));have E1:=gi (HCELL.o w2 hn).1.node;have E2:=gi (HCELL.o w2 hn).2.node;clear h0 h1 hn))
   cases q with
   | true=>
    have HFI:=gi (H1.o rfl);clear H0 H1 E1 E2 c0 c1 c2 c3 c4 c5 c6 c7 d0 d1 d2 d3 d4 d5 d6 d7;go_wp2;go_ret;exact NbPost.of_some (HSO.o (by simp)) rfl HFI.o
   | false=>
    have HNI:=gi (H0.o rfl);clear H0 H1 E1 E2 c0 c1 c2 c3 c4 c5 c6 c7 d0 d1 d2 d3 d4 d5 d6 d7;go_wp2;go_roundw
    case rel=> exact ⟨k + 1,by go_num,by omega,HAL.o (by simp),HNI.o⟩
    case measure=> simp [intOf];omega
  ·have hnone:nbO p (MRe.trees kids)=none:=nbO_none fun i hi=> by
    rw [MRe.trees_length] at hi;exact hpk i (by rw [MRe.trees_length];exact hi) (by omega)
   have hk1:((k + 1:Nat):Int)=(k:Int) + 1:=by omega
   have hlti:¬ (k:Int) + 1 < (kids.length:Int):=by omega
   have HNO:=gi hnone;rw [hk1];clear hpk hinv hnone hk1;go_wp2;go_ret;exact NbPost.of_none HNO.o rfl HINV.o
def PairPost (Inv:World→Prop) (Fin:Nat→World→Prop) (o:Option Nat) (e:Ending) (w':World):Prop:=
 match o with
 | none=> (∃ x:Int,e=.returned (.tuple #[H J x,F false]))∧Inv w'
 | some i=> e=.returned (.tuple #[H J i,F true])∧Fin i w'
theorem PairPost.of_none {Inv:World→Prop} {Fin:Nat→World→Prop} {o:Option Nat} {e:Ending} {w':World} (h:o=none) (x:Int) (he:e=.returned (.tuple #[H J x,F false])) (hi:Inv w'):PairPost Inv Fin o e w':=by subst h;exact ⟨⟨x,he⟩,hi⟩
theorem PairPost.of_some {Inv:World→Prop} {Fin:Nat→World→Prop} {o:Option Nat} {i:Nat} {e:Ending} {w':World} (h:o=some i) (he:e=.returned (.tuple #[H J i,F true])) (hi:Fin i w'):PairPost Inv Fin o e w':=by subst h;exact ⟨he,hi⟩
def pairO (p:Tree→Tree→Bool) (op:Int) (t:Tree):Option Nat:=if t.op=op then nbO p t.kids else none
theorem pair_any (K:Nat) (cap:Array Value) (p:Tree→Tree→Bool) (o:Int) (m:MRe) (w:World) (Inv:World→Prop) (Fin:Nat→World→Prop) (he:Enters K)
  (hi:Inv w) (hin:∀ W,Inv W→m.OK W) (hfn:∀ i W,Fin i W→m.OK W) (hdr:∀ W,Inv W→Inv W.drew) (hal:∀ W o,Inv W→Inv (W.alloc o)) (hf:TestOK K cap p m.kids Inv Fin):
  Calls Tryz.prog 118 #[m.val,H J o,.func (Fn.func K) #[] cap] w (PairPost Inv Fin (pairO p o m.tree)):=by
 obtain ⟨op,sa,sc,set,ka,kc,kids,mn,mx,mode,n,neg⟩:=m;have HN:=gi (fun W (h:Inv W)=> neighbors_any K cap p ka kc kids W Inv Fin he h (fun W h=> (hin W h).nodes) (fun i W h=> (hfn i W h).nodes) hdr hf);have HI:=gi (hal w (.cells #[H J op,M sa set.length sc,M ka kids.length kc,H J mn,H J mx,H J mode,H J n,F neg] 26) hi);have hpo:pairO p o (MRe.tree (.node op sa sc set ka kc kids mn mx mode n neg))=if op=o then nbO p (MRe.trees kids) else none:=rfl;rw [hpo];simp only [MRe.val];clear he hi hin hfn hdr hal hf hpo
 by_cases ho:op=o
 ·subst ho;rw [if_pos rfl];have hne:(op !=op)=false:=by simp
  go_enter Tryz.func118,Tryz.ntmps118
  go_wp2_with fail
  refine Calls.mono (HN.o _ HI.o) ?_;intro e w2 hor
  cases hq:nbO p (MRe.trees kids) with
  | none=>
   rw [hq] at hor;obtain ⟨rfl,hv⟩:=hor;have HV:=gi hv;have HQ:=gi hq;clear hv hq;go_wp2
   go_ret2
   exact PairPost.of_none HQ.o (-1) rfl HV.o
  | some i=>
   rw [hq] at hor;obtain ⟨rfl,hv⟩:=hor;have HV:=gi hv;have HQ:=gi hq;clear hv hq;go_wp2
   go_ret2
   exact PairPost.of_some HQ.o rfl HV.o
 ·rw [if_neg ho];have hne:(op !=o)=true:=by simp [ho]
  go_enter Tryz.func118,Tryz.ntmps118
  go_wp2
  go_ret2
  exact PairPost.of_none rfl 0 rfl HI.o
theorem At8.cells0 {w:World} {b:Nat} {op sa sc set ka kc kids mn mx mode n neg} (h:At8 w b 0 (.node op sa sc set ka kc kids mn mx mode n neg)):w.cell? ⟨b,0,none⟩=some (H J op)∧w.cell? ⟨b,1,none⟩=some (M sa set.length sc)∧w.cell? ⟨b,2,none⟩=some (M ka kids.length kc)∧w.cell? ⟨b,3,none⟩=some (H J mn)∧w.cell? ⟨b,4,none⟩=some (H J mx)∧w.cell? ⟨b,5,none⟩=some (H J mode)∧w.cell? ⟨b,6,none⟩=some (H J n)∧w.cell? ⟨b,7,none⟩=some (F neg):=by
 have g:=h.node;have c1:=g.c1;have c2:=g.c2;have c3:=g.c3;have c4:=g.c4;have c5:=g.c5;have c6:=g.c6;have c7:=g.c7;rw [Nat.zero_add] at c1 c2 c3 c4 c5 c6 c7;exact ⟨g.c0,c1,c2,c3,c4,c5,c6,c7⟩
theorem At8.cellsO {w:World} {b o:Nat} {op sa sc set ka kc kids mn mx mode n neg} (h:At8 w b o (.node op sa sc set ka kc kids mn mx mode n neg)):w.cell? ⟨b,o,none⟩=some (H J op)∧w.cell? ⟨b,o + 1,none⟩=some (M sa set.length sc)∧w.cell? ⟨b,o + 2,none⟩=some (M ka kids.length kc)∧w.cell? ⟨b,o + 3,none⟩=some (H J mn)∧w.cell? ⟨b,o + 4,none⟩=some (H J mx)∧w.cell? ⟨b,o + 5,none⟩=some (H J mode)∧w.cell? ⟨b,o + 6,none⟩=some (H J n)∧w.cell? ⟨b,o + 7,none⟩=some (F neg):=
 ⟨h.node.c0,h.node.c1,h.node.c2,h.node.c3,h.node.c4,h.node.c5,h.node.c6,h.node.c7⟩
theorem box1 (w:World) (m:MRe) (T:Nat):At8 (w.alloc (.cells m.row.toArray T)) w.heap.size 0 m:=At8.box rfl
theorem box2 (w:World) (m1 m2:MRe) (T:Nat):At8 ((w.alloc (.cells m1.row.toArray T)).alloc (.cells m2.row.toArray T)) w.heap.size 0 m1∧At8 ((w.alloc (.cells m1.row.toArray T)).alloc (.cells m2.row.toArray T)) (w.heap.size + 1) 0 m2:=by
 refine ⟨(box1 w m1 T).keep (Keeps.a1 _ _),?_⟩;have h:=box1 (w.alloc (.cells m1.row.toArray T)) m2 T;rw [show (w.alloc (.cells m1.row.toArray T)).heap.size=w.heap.size + 1 by simp] at h;exact h
theorem boxZ (w:World) (m:MRe) (T:Nat):At8 ((w.alloc (.cells m.row.toArray T)).alloc (.cells #[H J 0,M none 0 0,M none 0 0,H J 0,H J 0,H J 0,H J 0,F false] T)) w.heap.size 0 m∧((w.alloc (.cells m.row.toArray T)).alloc (.cells #[H J 0,M none 0 0,M none 0 0,H J 0,H J 0,H J 0,H J 0,F false] T)).heap[w.heap.size + 1]? =some (.cells #[H J 0,M none 0 0,M none 0 0,H J 0,H J 0,H J 0,H J 0,F false] T (0,0))∧
  w.heap.size + 2≤((w.alloc (.cells m.row.toArray T)).alloc (.cells #[H J 0,M none 0 0,M none 0 0,H J 0,H J 0,H J 0,H J 0,F false] T)).heap.size:=
 ⟨(box1 w m T).keep (Keeps.a1 _ _),heap_alloc2_new w _ _,by simp⟩
theorem KidsIn.head {w:World} {ka:Option Addr} {kc:Nat} {kids:List MRe} (h:KidsIn w ka kc kids) (h0:0 < kids.length):∃ (b off:Nat) (k:MRe),ka=some ⟨b,off,none⟩∧k∈kids∧kids[0]? =some k∧At8 w b off k∧k.OK w:=by
 obtain ⟨b,off,h1,_,h2⟩:=h.nodes.kid h0;have h3:=h2 0 h0;rw [Nat.zero_mul,Nat.add_zero] at h3;exact ⟨b,off,kids[0],h1,List.getElem_mem h0,by simp [h0],h3,h.all _ (List.getElem_mem h0)⟩
theorem trees_head {kids:List MRe} {k:MRe} (h:kids[0]? =some k):∃ r,MRe.trees kids=k.tree::r:=by
 cases kids with
 | nil=> simp at h
 | cons x xs=> simp at h;subst h;exact ⟨MRe.trees xs,rfl⟩
theorem testOK_of {K:Nat} {cap:Array Value} {p:Tree→Tree→Bool} {kids:List MRe} {w:World}
  (h:∀ a∈kids,∀ b∈kids,∀ W,Keeps [] w W→Calls Tryz.prog K (#[a.val,b.val] ++ cap) W fun e w'=> e=.returned (F (p a.tree b.tree))∧Keeps [] W w'):TestOK K cap p kids (Keeps [] w) (fun _=> Keeps [] w):=
 fun i hi W hW=> (h kids[i] (List.getElem_mem _) kids[i + 1] (List.getElem_mem _) W hW).mono fun e w' ⟨he,hk⟩=> ⟨he,fun _=> hW.trans hk,fun _=> hW.trans hk⟩
def hdEq (l m:List Tree):Bool:=match l,m with | a::_,b::_=> eqB a b | _,_=> false
def headP (x y:Tree):Bool:=x.op==2 && (y.op==2 && (singleHd x.kids && hdEq x.kids y.kids))
theorem head1_any (m1 m2:MRe) (w:World) (k1:m1.OK w) (k2:m2.OK w) (f1:m1.tree.WF) (f2:m2.tree.WF):
  Calls Tryz.prog 119 #[m1.val,m2.val] w fun e w'=> e=.returned (F (headP m1.tree m2.tree))∧Keeps [] w w':=by
 obtain ⟨op1,sa1,sc1,set1,ka1,kc1,kids1,mn1,mx1,mode1,n1,neg1⟩:=m1;obtain ⟨op2,sa2,sc2,set2,ka2,kc2,kids2,mn2,mx2,mode2,n2,neg2⟩:=m2;have hP:headP (MRe.tree (.node op1 sa1 sc1 set1 ka1 kc1 kids1 mn1 mx1 mode1 n1 neg1)) (MRe.tree (.node op2 sa2 sc2 set2 ka2 kc2 kids2 mn2 mx2 mode2 n2 neg2))=(op1==2 && (op2==2 && (singleHd (MRe.trees kids1) && hdEq (MRe.trees kids1) (MRe.trees kids2)))):=rfl;rw [hP];have hbx:=box2 w (.node op1 sa1 sc1 set1 ka1 kc1 kids1 mn1 mx1 mode1 n1 neg1) (.node op2 sa2 sc2 set2 ka2 kc2 kids2 mn2 mx2 mode2 n2 neg2) 26;have hkX:=Keeps.a2 w (.cells #[H J op1,M sa1 set1.length sc1,M ka1 kids1.length kc1,H J mn1,H J mx1,H J mode1,H J n1,F neg1] 26) (.cells #[H J op2,M sa2 set2.length sc2,M ka2 kids2.length kc2,H J mn2,H J mx2,H J mode2,H J n2,F neg2] 26);have n1:=wf_node f1;have n2:=wf_node f2;simp only [MRe.val]
 by_cases h1:op1=2
 ·by_cases h2:op2=2
  ·subst h1;subst h2;have l1:=n1.htwo (.inl rfl);have l2:=n2.htwo (.inl rfl);obtain ⟨b1,o1,a,rfl,ha,ha0,haa,hao⟩:=k1.kids.head (by omega);obtain ⟨b2,o2,b,rfl,hb,hb0,hba,hbo⟩:=k2.kids.head (by omega);obtain ⟨r1,t1⟩:=trees_head ha0;obtain ⟨r2,t2⟩:=trees_head hb0;rw [t1,t2];have haf:=wf_kid f1 ha;have hbf:=wf_kid f2 hb;have HS:=gi (fun W (h:Keeps [] w W)=> single_any a W (hao.keep h) haf);have HE:=gi (fun W (h:Keeps [] w W)=> equal_any a b W (hao.keep h) (hbo.keep h));have hv:((2:Int)==2 && ((2:Int)==2 && (singleHd (a.tree::r1) && hdEq (a.tree::r1) (b.tree::r2))))=(singleT a.tree && eqB a.tree b.tree):=rfl;rw [hv];obtain ⟨q1,hq1⟩:∃ q,q=singleT a.tree:=⟨_,rfl⟩;obtain ⟨q2,hq2⟩:∃ q,q=eqB a.tree b.tree:=⟨_,rfl⟩;rw [←hq1] at HS;rw [←hq2] at HE;rw [←hq1,←hq2];have hA:=haa.keep hkX;have hB:=hba.keep hkX;obtain ⟨op3,sa3,sc3,set3,ka3,kc3,kids3,mn3,mx3,mode3,n3,neg3⟩:=a;obtain ⟨op4,sa4,sc4,set4,ka4,kc4,kids4,mn4,mx4,mode4,n4,neg4⟩:=b;have g:=hA.node;obtain ⟨c0,c1,c2,c3,c4,c5,c6,c7⟩:=id g;clear g;have g:=hB.node;obtain ⟨d0,d1,d2,d3,d4,d5,d6,d7⟩:=id g;obtain ⟨x0,-,x2,-⟩:=hbx.1.cells0;obtain ⟨y0,-,y2,-⟩:=hbx.2.cells0;have i1:(0:Int) < (kids1.length:Int):=by omega
   have i1n:0 < kids1.length:=by omega
   have i2n:0 < kids2.length:=by omega
   have i2:(0:Int) < (kids2.length:Int):=by omega
   simp only [MRe.val] at HS HE;clear g hA hB hbx hP n1 n2 haa hba ha hb ha0 hb0 t1 t2 hv hq1 hq2 k1 k2 f1 f2 hao hbo haf hbf l1 l2;have hv2:q1=false→(q1 && q2)=false:=fun h=> by rw [h];rfl
   have hv3:q1=true→(q1 && q2)=q2:=fun h=> by rw [h];rfl
   have HV2:=gi hv2;have HV3:=gi hv3;obtain ⟨v,hv⟩:∃ v,v=(q1 && q2):=⟨_,rfl⟩;rw [←hv] at HV2 HV3 ⊢;clear hv hv2 hv3;obtain ⟨B,hBe⟩:∃ B,B=w.heap.size:=⟨_,rfl⟩;simp only [MRe.row] at x0 x2 y0 y2 c0 c1 c2 c3 c4 c5 c6 c7 d0 d1 d2 d3 d4 d5 d6 d7
   cases q1 with
   | false=>
    go_enter Tryz.func119,Tryz.ntmps119
    go_upto_region 1 with fail
    rw [←hBe] at x0 x2 y0 y2 ⊢
    generalize (w.alloc (.cells #[H J 2,M sa1 set1.length sc1,M (some ⟨b1,o1,none⟩) kids1.length kc1,H J mn1,H J mx1,H J mode1,H J n1,F neg1] 26)).alloc (.cells #[H J 2,M sa2 set2.length sc2,M (some ⟨b2,o2,none⟩) kids2.length kc2,H J mn2,H J mx2,H J mode2,H J n2,F neg2] 26)=X at *
    clear hBe;have cS:∀ d os,Calls Tryz.prog 120 #[.agg #[H J op3,M sa3 set3.length sc3,M ka3 kids3.length kc3,H J mn3,H J mx3,H J mode3,H J n3,F neg3]] (grow (redrawn X d) os) fun e w''=> e=.returned (F false)∧∃ p:Regrown,w''=grow (redrawn X p.d) p.os:=fun d os=> Calls.regrown_of ((HS.o _ (hkX.trans (Keeps.of_below (below_regrown X d os)))).mono fun e w' ⟨he,hk⟩=> ⟨he,hk.below (Nat.le_refl _)⟩);have CS:=gi cS;have p0:=cell_regrown x0;have p2:=cell_regrown x2;have r0:=cell_regrown y0;have r2:=cell_regrown y2;have s0:=cell_regrown c0;have s1:=cell_regrown c1;have s2:=cell_regrown c2;have s3:=cell_regrown c3;have s4:=cell_regrown c4;have s5:=cell_regrown c5;have s6:=cell_regrown c6;have s7:=cell_regrown c7;have hkX':=gi hkX;clear cS c0 c1 c2 c3 c4 c5 c6 c7 d0 d1 d2 d3 d4 d5 d6 d7 x0 x2 y0 y2 hkX;refine wp_region_quiet_below (by kernel_rfl) (by kernel_rfl) ?_
    repeat (go_big_quiet_step (exact CS.o _ _))
    refine wpQuiet_nil ?_;intro _ hw';obtain ⟨pq,hw''⟩:=hw';subst hw'';have hk:=Keeps.of_below (below_regrown X pq.d pq.os);have HK:=gi (hkX'.o.trans hk);clear hk p0 p2 r0 r2 s0 s1 s2 s3 s4 s5 s6 s7
    generalize grow (redrawn X pq.d) pq.os=Y at *
    go_wp2;go_ret;exact ⟨by rw [HV2.o (by simp)];rfl,HK.o⟩
   | true=>
    go_enter Tryz.func119,Tryz.ntmps119
    go_upto_region 1 with fail
    rw [←hBe] at x0 x2 y0 y2 ⊢
    generalize (w.alloc (.cells #[H J 2,M sa1 set1.length sc1,M (some ⟨b1,o1,none⟩) kids1.length kc1,H J mn1,H J mx1,H J mode1,H J n1,F neg1] 26)).alloc (.cells #[H J 2,M sa2 set2.length sc2,M (some ⟨b2,o2,none⟩) kids2.length kc2,H J mn2,H J mx2,H J mode2,H J n2,F neg2] 26)=X at *
    clear hBe;have cS:∀ d os,Calls Tryz.prog 120 #[.agg #[H J op3,M sa3 set3.length sc3,M ka3 kids3.length kc3,H J mn3,H J mx3,H J mode3,H J n3,F neg3]] (grow (redrawn X d) os) fun e w''=> e=.returned (F true)∧∃ p:Regrown,w''=grow (redrawn X p.d) p.os:=fun d os=> Calls.regrown_of ((HS.o _ (hkX.trans (Keeps.of_below (below_regrown X d os)))).mono fun e w' ⟨he,hk⟩=> ⟨he,hk.below (Nat.le_refl _)⟩);have cE:∀ d os,Calls Tryz.prog 117 #[.agg #[H J op3,M sa3 set3.length sc3,M ka3 kids3.length kc3,H J mn3,H J mx3,H J mode3,H J n3,F neg3],.agg #[H J op4,M sa4 set4.length sc4,M ka4 kids4.length kc4,H J mn4,H J mx4,H J mode4,H J n4,F neg4]] (grow (redrawn X d) os) fun e w''=> e=.returned (F q2)∧∃ p:Regrown,w''=grow (redrawn X p.d) p.os:=fun d os=> Calls.regrown_of ((HE.o _ (hkX.trans (Keeps.of_below (below_regrown X d os)))).mono fun e w' ⟨he,hk⟩=> ⟨he,hk.below (Nat.le_refl _)⟩);have CS:=gi cS;have CE:=gi cE;have p0:=cell_regrown x0;have p2:=cell_regrown x2;have r0:=cell_regrown y0;have r2:=cell_regrown y2;have s0:=cell_regrown c0;have s1:=cell_regrown c1;have s2:=cell_regrown c2;have s3:=cell_regrown c3;have s4:=cell_regrown c4;have s5:=cell_regrown c5;have s6:=cell_regrown c6;have s7:=cell_regrown c7;have t0:=cell_regrown d0;have t1:=cell_regrown d1;have t2:=cell_regrown d2;have t3:=cell_regrown d3;have t4:=cell_regrown d4;have t5:=cell_regrown d5;have t6:=cell_regrown d6;have t7:=cell_regrown d7;have hkX':=gi hkX;clear cS cE c0 c1 c2 c3 c4 c5 c6 c7 d0 d1 d2 d3 d4 d5 d6 d7 x0 x2 y0 y2 hkX;refine wp_region_quiet_below (by kernel_rfl) (by kernel_rfl) ?_
    repeat (go_big_quiet_step (first | exact CS.o _ _ | exact CE.o _ _))
    refine wpQuiet_nil ?_;intro _ hw';obtain ⟨pq,hw''⟩:=hw';subst hw'';have hk:=Keeps.of_below (below_regrown X pq.d pq.os);have HK:=gi (hkX'.o.trans hk);clear hk p0 p2 r0 r2 s0 s1 s2 s3 s4 s5 s6 s7 t0 t1 t2 t3 t4 t5 t6 t7
    generalize grow (redrawn X pq.d) pq.os=Y at *
    go_wp2;go_ret;exact ⟨by rw [HV3.o (by simp)];rfl,HK.o⟩
  ·have hv:(op1==2 && (op2==2 && (singleHd (MRe.trees kids1) && hdEq (MRe.trees kids1) (MRe.trees kids2))))=false:=by simp [h2]
   rw [hv];subst h1;obtain ⟨x0,-⟩:=hbx.1.cells0;obtain ⟨y0,-⟩:=hbx.2.cells0;have h2b:(op2==2)=false:=by simpa using h2
   simp only [MRe.row] at x0 y0;clear hv hP hbx n1 n2 k1 k2 f1 f2;go_enter Tryz.func119,Tryz.ntmps119
   go_upto_region 1 with fail
   go_quiet (fail)
   go_wp2;go_ret;exact ⟨rfl,hkX.drewN _⟩
 ·have hv:(op1==2 && (op2==2 && (singleHd (MRe.trees kids1) && hdEq (MRe.trees kids1) (MRe.trees kids2))))=false:=by simp [h1]
  rw [hv];obtain ⟨x0,-⟩:=hbx.1.cells0;have h1b:(op1==2)=false:=by simpa using h1
  simp only [MRe.row] at x0;clear hv hP hbx n1 n2 k1 k2 f1 f2;go_enter Tryz.func119,Tryz.ntmps119
  go_upto_region 1 with fail
  go_quiet (fail)
  go_wp2;go_ret;exact ⟨rfl,hkX.drewN _⟩
end Go.Proofs.YtjnlkjlbejelgaaGreat
