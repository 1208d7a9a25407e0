/- Part 20 of the proof. No condition: every lemma says its own. -/
import Derived.Test.YtjnlkjlbejelgaaGreatLas
namespace Go.Proofs.YtjnlkjlbejelgaaGreat
open Go.RowKit
open Go.Value renaming int→H,slice→M,bool→F
open Go.IntKind renaming i64→J
set_option maxRecDepth 100000
set_option maxHeartbeats 16000000
def f1B (op lo hi:Int) (nk:Nat):Bool:=decide (op < 0) || (decide (11 < op) || (decide ((nk:Int) < lo) || (decide (0≤hi) && decide (hi < (nk:Int)))))
def f3B (mn mx mode:Int):Bool:=decide (mn < 0) || (decide (32 < mn) || (decide (mx < -1) || (decide (mx=0) || (decide (32 < mx) || ((decide (0 < mx) && decide (mx < mn)) || (decide (mode < 0) || decide (2 < mode)))))))
def f4B (mn mx mode:Int):Bool:=decide (mn≠0) || (decide (mx≠0) || decide (mode≠0))
def f2B (op:Int) (sp:Bool) (ns:Nat):Bool:=(op==1 && !sp) || (op !=1 && decide (0 < ns))
def f5B (op n caps:Int):Bool:=if op=5∨op=6∨op=10 then decide (n < 1) || decide (caps < n) else if op=11 then decide (n < 0) || decide (5 < n) else decide (n≠0)
def formedB (op:Int) (ns nk:Nat) (mn mx mode n:Int) (neg:Bool) (caps:Int) (sp:Bool):Bool:=
 !(f1B op (kidsP op).1 (kidsP op).2 nk) && (!(f2B op sp ns) && (!(if op=4 then f3B mn mx mode else f4B mn mx mode) && (!(f5B op n caps) && (!neg || (op==7 || op==8)))))
theorem rformed_any (m:MRe) (caps top:Int) (w:World) (k1:m.OK w) (ht:top≤2000000):
  Calls Tryz.prog 110 #[m.val,H J caps,H J top] w fun e w'=> e=.returned (F (formedB m.tree.op m.tree.set.length m.tree.kids.length m.tree.mn m.tree.mx m.tree.mode m.tree.n m.tree.neg caps (spansB m.tree.set top)))∧Keeps [] w w':=by
 obtain ⟨R,hR0⟩:∃ R,R=formedB m.tree.op m.tree.set.length m.tree.kids.length m.tree.mn m.tree.mx m.tree.mode m.tree.n m.tree.neg caps (spansB m.tree.set top):=⟨_,rfl⟩;rw [←hR0];obtain ⟨op,sa,sc,set,ka,kc,kids,mn,mx,mode,n,neg⟩:=m;replace hR0:R=formedB op set.length (MRe.trees kids).length mn mx mode n neg caps (spansB set top):=hR0;rw [MRe.trees_length] at hR0;unfold formedB at hR0;have HSP:=gi k1.spans;have hcap:=k1.nodes.cap;have hle:=k1.nodes.le;unfold maxLen at hcap;simp only [MRe.val];obtain ⟨B,Y,c0,c1,c2,c3,c4,c5,c6,c7,HYE,HBE,KY⟩:=pre1 w op sa sc set ka kc kids mn mx mode n neg;obtain ⟨lo,hlo⟩:∃ lo,lo=(kidsP op).1:=⟨_,rfl⟩;obtain ⟨hi,hhi⟩:∃ hi,hi=(kidsP op).2:=⟨_,rfl⟩;rw [←hlo,←hhi] at hR0;have HLO:=gi hlo;have HHI:=gi hhi;have HR0:=gi hR0;clear hlo hhi k1 hR0;go_enter Tryz.func110,Tryz.ntmps110
 go_upto_region 1 with fail
 rw [←HYE.o,←HBE.o];go_wp2_with fail
 refine Calls.mono (rkids_any op Y) ?_;rintro e w' ⟨rfl,rfl⟩;rw [←HLO.o,←HHI.o];go_upto_region 2 with fail
 go_cut [40] (fun s40 wx=> ∃ b:Bool,s40=F b∧f1B op lo hi kids.length=b∧Y=wx)
 case first=>
  by_cases h1:op < 0
  ·go_wp2;go_meet;exact ⟨true,rfl,by simp [f1B,h1] <;> omega,rfl⟩
  ·by_cases h2:11 < op
   ·go_wp2;go_meet;exact ⟨true,rfl,by simp [f1B,h2] <;> omega,rfl⟩
   ·by_cases h3:(kids.length:Int) < lo
    ·go_wp2;go_meet;exact ⟨true,rfl,by simp [f1B,h3] <;> omega,rfl⟩
    ·by_cases h4:0≤hi
     ·by_cases h4b:hi < (kids.length:Int)
      ·go_wp2;go_meet;exact ⟨true,rfl,by simp [f1B,h4,h4b] <;> omega,rfl⟩
      ·go_wp2;go_meet;exact ⟨false,rfl,by simp [f1B,h1,h2,h3,h4,h4b] <;> omega,rfl⟩
     ·go_wp2;go_meet;exact ⟨false,rfl,by simp [f1B,h1,h2,h3] <;> omega,rfl⟩
 case rest=>
 obtain ⟨b,rfl,hf1,rfl⟩:=hcut
 cases b with
 | true=>
  have HR:=gi (show R=false by rw [HR0.o,hf1];rfl);clear hf1;go_wp2;go_ret;exact ⟨by rw [HR.o];rfl,KY.o⟩
 | false=>
 have HR1:=gi (show R=(!(f2B op (spansB set top) set.length) && (!(if op=4 then f3B mn mx mode else f4B mn mx mode) && (!(f5B op n caps) && (!neg || (op==7 || op==8))))) by rw [HR0.o,hf1];rfl);clear hf1;obtain ⟨sp,hsp⟩:∃ sp,sp=spansB set top:=⟨_,rfl⟩;have HSB:=gi (show ∀ W,Keeps [] w W→Calls Tryz.prog 139 #[M sa set.length sc,H J top] W fun e w'=> e=.returned (F sp)∧Keeps [] W w' from fun W h=> by rw [hsp];exact rspans_any sa sc set top W (HSP.o.keep h) ht);have HR2:=gi (show R=(!(f2B op sp set.length) && (!(if op=4 then f3B mn mx mode else f4B mn mx mode) && (!(f5B op n caps) && (!neg || (op==7 || op==8))))) by rw [HR1.o,hsp]);clear hsp;go_upto_region 4 with fail
 go_cut [61] (fun s61 wx=> ∃ b:Bool,s61=F b∧f2B op sp set.length=b∧Keeps [] Y wx)
 case first=>
  as_aux_lemma=>
  by_cases h1:op=1
  ·subst h1;go_wp2_with fail
   refine Calls.mono (HSB.o _ KY.o) ?_;rintro e w2 ⟨rfl,hk2⟩;have K2:=gi hk2;have e0:=hk2.c c0;have e1:=hk2.c c1;clear hk2
   cases sp with
   | true=>
    go_wp2;go_meet;exact ⟨false,rfl,rfl,K2.o⟩
   | false=>
    go_wp2;go_meet;exact ⟨true,rfl,rfl,K2.o⟩
  ·have h1b:(op==1)=false:=by simpa using h1
   have h1c:(op !=1)=true:=by simpa using h1
   by_cases h2:0 < set.length
   ·go_wp2;go_meet;exact ⟨true,rfl,by rw [f2B,h1b,h1c,decide_eq_true h2];rfl,Keeps.refl _ _⟩
   ·go_wp2;go_meet;exact ⟨false,rfl,by rw [f2B,h1b,h1c,decide_eq_false h2];rfl,Keeps.refl _ _⟩
 case rest=>
 obtain ⟨b,rfl,hf2,hkw⟩:=hcut;have KW:=gi (KY.o.trans hkw);obtain ⟨d0,d1,d2,d3,d4,d5,d6,d7⟩:=hkw.c8 c0 c1 c2 c3 c4 c5 c6 c7;obtain ⟨wx,hwx⟩:∃ wx,wx=wc:=⟨_,rfl⟩;clear hkw c0 c1 c2 c3 c4 c5 c6 c7
 cases b with
 | true=>
  have HR:=gi (show R=false by rw [HR2.o,hf2];rfl);clear hf2;go_wp2;go_ret;exact ⟨by rw [HR.o];rfl,KW.o⟩
 | false=>
 have HR3:=gi (show R=(!(if op=4 then f3B mn mx mode else f4B mn mx mode) && (!(f5B op n caps) && (!neg || (op==7 || op==8)))) by rw [HR2.o,hf2];rfl);clear hf2
 by_cases h4:op=4
 ·as_aux_lemma=>
  subst h4;go_upto_region 7 with fail
  go_cut [109] (fun s109 wy=> ∃ b:Bool,s109=F b∧f3B mn mx mode=b∧wc=wy)
  case first=>
   by_cases h5:mn < 0
   ·go_wp2;go_meet;exact ⟨true,rfl,by simp [f3B,h5] <;> omega,rfl⟩
   ·by_cases h6:32 < mn
    ·go_wp2;go_meet;exact ⟨true,rfl,by simp [f3B,h6] <;> omega,rfl⟩
    ·by_cases h7:mx < -1
     ·go_wp2;go_meet;exact ⟨true,rfl,by simp [f3B,h7] <;> omega,rfl⟩
     ·by_cases h8:mx=0
      ·subst h8;go_wp2;go_meet;exact ⟨true,rfl,by simp [f3B] <;> omega,rfl⟩
      ·have h8b:(mx==0)=false:=by simpa using h8
       by_cases h9:32 < mx
       ·go_wp2;go_meet;exact ⟨true,rfl,by simp [f3B,h8,h9] <;> omega,rfl⟩
       ·by_cases h10:0 < mx
        ·by_cases h10b:mx < mn
         ·go_wp2;go_meet;exact ⟨true,rfl,by simp [f3B,h8,h10,h10b] <;> omega,rfl⟩
         ·by_cases h11:mode < 0
          ·go_wp2;go_meet;exact ⟨true,rfl,by simp [f3B,h8,h10,h11] <;> omega,rfl⟩
          ·by_cases h12:2 < mode
           ·go_wp2;go_meet;exact ⟨true,rfl,by simp [f3B,h8,h10,h12] <;> omega,rfl⟩
           ·go_wp2;go_meet;exact ⟨false,rfl,by simp [f3B,h5,h6,h7,h8,h9,h10,h10b,h11,h12] <;> omega,rfl⟩
        ·by_cases h13:mode < 0
         ·go_wp2;go_meet;exact ⟨true,rfl,by simp [f3B,h8,h13] <;> omega,rfl⟩
         ·by_cases h14:2 < mode
          ·go_wp2;go_meet;exact ⟨true,rfl,by simp [f3B,h8,h14] <;> omega,rfl⟩
          ·go_wp2;go_meet;exact ⟨false,rfl,by simp [f3B,h5,h6,h7,h8,h9,h13,h14] <;> omega,rfl⟩
  case rest=>
  obtain ⟨b,rfl,hf3,rfl⟩:=hcut
  cases b with
  | true=>
   have HR:=gi (show R=false by rw [HR3.o,if_pos rfl,hf3];rfl);clear hf3;go_wp2;go_ret;exact ⟨by rw [HR.o];rfl,KW.o⟩
  | false=>
   replace HR3:=gi (show R=(!(f5B 4 n caps) && (!neg || false)) by rw [HR3.o,if_pos rfl,hf3];rfl);clear hf3
   by_cases hn:n=0
   ·subst hn
    cases neg with
    | true=>
     have HR:=gi (show R=false by rw [HR3.o];simp [f5B]);go_wp2;go_ret;exact ⟨by rw [HR.o];rfl,KW.o⟩
    | false=>
     have HR:=gi (show R=true by rw [HR3.o];simp [f5B]);go_wp2;go_ret;exact ⟨by rw [HR.o];rfl,KW.o⟩
   ·have hnb:(n==0)=false:=by simpa using hn
    have hnc:(n !=0)=true:=by simpa using hn
    have HR:=gi (show R=false by rw [HR3.o];simp [f5B,hn]);go_wp2;go_ret;exact ⟨by rw [HR.o];rfl,KW.o⟩
 ·as_aux_lemma=>
  have h4b:(op==4)=false:=by simpa using h4
  by_cases g1:mn=0
  ·subst g1
   by_cases g2:mx=0
   ·subst g2
    by_cases g3:mode=0
    ·subst g3;replace HR3:=gi (show R=(!(f5B op n caps) && (!neg || (op==7 || op==8))) by rw [HR3.o,if_neg h4];rfl)
     by_cases hA:op=5∨op=6∨op=10
     ·rcases hA with rfl | rfl | rfl
      all_goals
       by_cases k1:n < 1
       ·have HR:=gi (show R=false by rw [HR3.o];simp [f5B,k1]);go_wp2;go_ret;exact ⟨by rw [HR.o];rfl,KW.o⟩
       ·by_cases k2:caps < n
        ·have HR:=gi (show R=false by rw [HR3.o];simp [f5B,k2]);go_wp2;go_ret;exact ⟨by rw [HR.o];rfl,KW.o⟩
        ·have k1':1≤n:=by omega
         have k2':n≤caps:=by omega
         cases neg with
         | true=>
          have HR:=gi (show R=false by rw [HR3.o];simp [f5B]);go_wp2;go_ret;exact ⟨by rw [HR.o];rfl,KW.o⟩
         | false=>
          have HR:=gi (show R=true by rw [HR3.o];simp [f5B,k1',k2']);go_wp2;go_ret;exact ⟨by rw [HR.o];rfl,KW.o⟩
     ·by_cases hB:op=11
      ·subst hB
       by_cases k1:n < 0
       ·have HR:=gi (show R=false by rw [HR3.o];simp [f5B,k1]);go_wp2;go_ret;exact ⟨by rw [HR.o];rfl,KW.o⟩
       ·by_cases k2:5 < n
        ·have HR:=gi (show R=false by rw [HR3.o];simp [f5B,k2]);go_wp2;go_ret;exact ⟨by rw [HR.o];rfl,KW.o⟩
        ·have k1':0≤n:=by omega
         have k2':n≤5:=by omega
         cases neg with
         | true=>
          have HR:=gi (show R=false by rw [HR3.o];simp [f5B]);go_wp2;go_ret;exact ⟨by rw [HR.o];rfl,KW.o⟩
         | false=>
          have HR:=gi (show R=true by rw [HR3.o];simp [f5B,k1',k2']);go_wp2;go_ret;exact ⟨by rw [HR.o];rfl,KW.o⟩
      ·have b5:(op==5)=false:=by simp;omega
       have b6:(op==6)=false:=by simp;omega
       have b10:(op==10)=false:=by simp;omega
       have b11:(op==11)=false:=by simp;omega
       by_cases hn:n=0
       ·subst hn;replace HR3:=gi (show R=(!neg || (op==7 || op==8)) by rw [HR3.o,f5B,if_neg hA,if_neg hB];simp)
        cases neg with
        | false=>
         have HR:=gi (show R=true by rw [HR3.o];rfl);go_wp2;go_ret;exact ⟨by rw [HR.o];rfl,KW.o⟩
        | true=>
         by_cases o7:op=7
         ·subst o7;have HR:=gi (show R=true by rw [HR3.o];rfl);go_wp2;go_ret;exact ⟨by rw [HR.o];rfl,KW.o⟩
         ·by_cases o8:op=8
          ·subst o8;have HR:=gi (show R=true by rw [HR3.o];rfl);go_wp2;go_ret;exact ⟨by rw [HR.o];rfl,KW.o⟩
          ·have b7:(op==7)=false:=by simpa using o7
           have b8:(op==8)=false:=by simpa using o8
           have HR:=gi (show R=false by rw [HR3.o,b7,b8];rfl);go_wp2;go_ret;exact ⟨by rw [HR.o];rfl,KW.o⟩
       ·have hnb:(n==0)=false:=by simpa using hn
        have hnc:(n !=0)=true:=by simpa using hn
        have HR:=gi (show R=false by rw [HR3.o,f5B,if_neg hA,if_neg hB];simp [hn]);go_wp2;go_ret;exact ⟨by rw [HR.o];rfl,KW.o⟩
    ·have hgb:(mode !=0)=true:=by simpa using g3
     have HR:=gi (show R=false by rw [HR3.o,if_neg h4];simp [f4B,g3]);go_wp2;go_ret;exact ⟨by rw [HR.o];rfl,KW.o⟩
   ·have hgb:(mx !=0)=true:=by simpa using g2
    have HR:=gi (show R=false by rw [HR3.o,if_neg h4];simp [f4B,g2]);go_wp2;go_ret;exact ⟨by rw [HR.o];rfl,KW.o⟩
  ·have hgb:(mn !=0)=true:=by simpa using g1
   have HR:=gi (show R=false by rw [HR3.o,if_neg h4];simp [f4B,g1]);go_wp2;go_ret;exact ⟨by rw [HR.o];rfl,KW.o⟩
theorem badS_first {top:Int} {pv:Option Int} {s:Int × Int} (h:badS top pv s=false):0≤s.1∧s.1≤s.2∧s.2≤top:=by
 unfold badS at h;simp only [Bool.or_eq_false_iff,decide_eq_false_iff_not] at h;omega
theorem badS_next {top p:Int} {s:Int × Int} (h:badS top (some p) s=false):p + 2≤s.1:=by
 unfold badS at h;simp only [Bool.or_eq_false_iff,decide_eq_false_iff_not] at h;omega
theorem spansGo_ok {top:Int} (ht:top≤1114111):∀ (l:List (Int × Int)) (pv:Option Int),spansGo top pv l=true→SpansOK l
 | [],_,_=> trivial
 | [s],pv,h=> by
  rw [spansGo,Bool.and_eq_true,Bool.not_eq_true'] at h;have h1:=badS_first h.1;exact ⟨h1.1,h1.2.1,by omega⟩
 | s::t::r,pv,h=> by
  rw [spansGo,Bool.and_eq_true,Bool.not_eq_true'] at h;have h1:=badS_first h.1;have ih:=spansGo_ok ht (t::r) (some s.2) h.2;have h2:=h.2;rw [spansGo,Bool.and_eq_true,Bool.not_eq_true'] at h2;exact ⟨h1.1,h1.2.1,badS_next h2.1,ih⟩
theorem formedB_ok {op mn mx mode n caps top:Int} {set:List (Int × Int)} {nk:Nat} {neg:Bool} (ht:top≤1114111) (h:formedB op set.length nk mn mx mode n neg caps (spansB set top)=true):NodeOK op set nk mn mx mode n neg:=by
 unfold formedB at h;simp only [Bool.and_eq_true,Bool.not_eq_true'] at h;obtain ⟨h1,h2,h3,h4,h5⟩:=h;simp only [f1B,Bool.or_eq_false_iff,Bool.and_eq_false_iff,decide_eq_false_iff_not] at h1;obtain ⟨a1,a2,a3,a4⟩:=h1;have hk:∀ x y:Int,kidsP op=(x,y)→x≤nk∧(y < 0∨(nk:Int)≤y):=fun x y e=> by
  rw [e] at a3 a4
  constructor <;> omega
 have hkv:(op=4∨op=5∨op=7∨op=8∨op=9→kidsP op=(1,1))∧(op=2∨op=3→kidsP op=(2,-1))∧(op=10→kidsP op=(2,2))∧(op=0∨op=1∨op=6∨op=11→kidsP op=(0,0)):=by
  refine ⟨fun h=> ?_,fun h=> ?_,fun h=> ?_,fun h=> ?_⟩
  ·rcases h with rfl | rfl | rfl | rfl | rfl <;> rfl
  ·rcases h with rfl | rfl <;> rfl
  ·subst h;rfl
  ·rcases h with rfl | rfl | rfl | rfl <;> rfl
 obtain ⟨v1,v2,v3,v4⟩:=hkv;have hs:(op=1→spansB set top=true)∧(op≠1→set=[]):=by
  by_cases o1:op=1
  ·refine ⟨fun _=> ?_,fun h=> absurd o1 h⟩;subst o1
   cases hq:spansB set top with
   | true=> rfl
   | false=> rw [hq] at h2;cases h2
  ·refine ⟨fun h=> absurd h o1,fun _=> ?_⟩;have e1:(op==1)=false:=by simpa using o1
   have e2:(op !=1)=true:=by simpa using o1
   rw [f2B,e1,e2] at h2
   have:decide (0 < set.length)=false:=h2
   simp only [decide_eq_false_iff_not] at this;exact List.eq_nil_of_length_eq_zero (by omega)
 have hr:op=4→f3B mn mx mode=false:=fun h=> by rw [if_pos h] at h3;exact h3
 have hn:op≠4→f4B mn mx mode=false:=fun h=> by rw [if_neg h] at h3;exact h3
 constructor
 ·omega
 ·intro h;have:=hk 1 1 (v1 h);omega
 ·intro h;have:=hk 2 (-1) (v2 h);omega
 ·intro h;have:=hk 2 2 (v3 h);omega
 ·intro h;have:=hk 0 0 (v4 h);omega
 ·intro h
  have:=hr h
  simp only [f3B,Bool.or_eq_false_iff,Bool.and_eq_false_iff,decide_eq_false_iff_not] at this;omega
 ·intro h
  have:=hn h
  simp only [f4B,Bool.or_eq_false_iff,decide_eq_false_iff_not] at this;omega
 ·intro h
  have:=hs.1 h
  unfold spansB at this;simp only [Bool.and_eq_true,decide_eq_true_eq] at this;exact ⟨spansGo_ok ht _ _ this.2,this.1⟩
 ·exact hs.2
 ·intro h;rw [f5B,if_pos h] at h4;simp only [Bool.or_eq_false_iff,decide_eq_false_iff_not] at h4;omega
 ·intro h;rw [f5B,if_neg (by omega),if_pos h] at h4;simp only [Bool.or_eq_false_iff,decide_eq_false_iff_not] at h4;omega
 ·intro h;rw [f5B,if_neg (by omega),if_neg (by omega)] at h4;simp only [decide_eq_false_iff_not] at h4;omega
 ·intro h;subst h;simp only [Bool.not_true,Bool.false_or,Bool.or_eq_true,beq_iff_eq] at h5;exact h5
def nodeB (caps top:Int) (t:Tree):Bool:=formedB t.op t.set.length t.kids.length t.mn t.mx t.mode t.n t.neg caps (spansB t.set top)
mutual
def wholeT (caps top:Int):Tree→Bool
 | .node op set kids mn mx mode n neg=> nodeB caps top (.node op set kids mn mx mode n neg) && wholeTs caps top kids
def wholeTs (caps top:Int):List Tree→Bool
 | []=> true
 | k::ks=> wholeT caps top k && wholeTs caps top ks
end
theorem wholeTs_iff (caps top:Int) (l:List Tree):wholeTs caps top l=l.all (wholeT caps top):=by
 induction l with
 | nil=> rfl
 | cons x r ih=> simp only [wholeTs,List.all_cons,ih]
theorem rwhole_any (caps top:Int) (ht:top≤2000000) (m:MRe):∀ (w:World),m.OK w→
  Calls Tryz.prog 76 #[m.val,H J caps,H J top] w fun e w'=> e=.returned (F (wholeT caps top m.tree))∧Keeps [] w w':=by
 induction m using MRe.induct with
 | h op sa sc set ka kc kids mn mx mode n neg ih=>
  intro w k1;have HF:=fun (W:World) (h:Keeps [] w W)=> rformed_any (.node op sa sc set ka kc kids mn mx mode n neg) caps top W (k1.keep h) ht;obtain ⟨f,hf⟩:∃ f,f=nodeB caps top (MRe.tree (.node op sa sc set ka kc kids mn mx mode n neg)):=⟨_,rfl⟩;replace HF:=gi (show ∀ W,Keeps [] w W→Calls Tryz.prog 110 #[.agg #[H J op,M sa set.length sc,M ka kids.length kc,H J mn,H J mx,H J mode,H J n,F neg],H J caps,H J top] W fun e w'=> e=.returned (F f)∧Keeps [] W w' from fun W h=> by rw [hf];exact HF W h);obtain ⟨R,hR0⟩:∃ R,R=wholeT caps top (MRe.tree (.node op sa sc set ka kc kids mn mx mode n neg)):=⟨_,rfl⟩;rw [←hR0];replace hR0:R=(f && (MRe.trees kids).all (wholeT caps top)):=by rw [hR0,hf,←wholeTs_iff];simp only [MRe.tree,wholeT]
  have HR0:=gi hR0;have HI:=gi (fun k (hk:k∈kids) W (h:Keeps [] w W)=> ih k hk W ((k1.kid hk).keep h));have HK:=gi k1.kids;have hle:=k1.nodes.le;have hcap:=k1.nodes.cap;unfold maxLen at hcap;simp only [MRe.val];obtain ⟨B,Y,c0,c1,c2,c3,c4,c5,c6,c7,HYE,HBE,KY⟩:=pre1 w op sa sc set ka kc kids mn mx mode n neg;clear ih k1 hR0 hf;go_enter Tryz.func76,Tryz.ntmps76
  go_upto_region 1 with fail
  rw [←HYE.o,←HBE.o];go_wp2_with fail
  refine Calls.mono (HF.o _ KY.o) ?_;rintro e w2 ⟨rfl,hk2⟩;have K2:=gi (KY.o.trans hk2);have d2:=hk2.c c2;clear hk2 c0 c1 c2 c3 c4 c5 c6 c7
  cases f with
  | false=>
   have HR:=gi (show R=false by rw [HR0.o];rfl);go_wp2;go_ret;exact ⟨by rw [HR.o];rfl,K2.o⟩
  | true=>
   have HR1:=gi (show R=(MRe.trees kids).all (wholeT caps top) by rw [HR0.o];rfl);go_wp2
   go_loopw [7] (fun i wr=> ∃ k:Nat,k≤kids.length∧i=H J k∧(∀ x∈(MRe.trees kids).take k,wholeT caps top x=true)∧Keeps [] w2 wr) (fun i _=> kids.length - (intOf i).toNat)
   case atStart=> exact ⟨0,Nat.zero_le _,rfl,by simp,Keeps.refl _ _⟩
   case round=>
    obtain ⟨k,hkk,rfl,hpk,hkp⟩:=hrel;have HP:=gi hpk;have HKP:=gi hkp;have y2:=hkp.c d2;clear hpk hkp d2
    by_cases hlt:k < kids.length
    ·obtain ⟨b,off,rfl,hb,hx⟩:=(HK.o.keep (K2.o.trans HKP.o)).nodes.kid (by omega);have hx0:=hx k hlt;have HC:=gi (HI.o kids[k] (List.getElem_mem hlt) wr (K2.o.trans HKP.o));have hlt':k < (MRe.trees kids).length:=by rw [MRe.trees_length];exact hlt
     have hn:=fun h=> take_succ_all (p:=wholeT caps top) hlt' HP.o h;have hf:=fun h=> all_false (p:=wholeT caps top) hlt' h;rw [trees_getElem kids k hlt] at hn hf;have HN:=gi hn;have HF2:=gi hf
     generalize kids[k]=m at *
     obtain ⟨q,hq⟩:∃ q,q=wholeT caps top m.tree:=⟨_,rfl⟩;rw [←hq] at HC HN HF2;obtain ⟨op1,sa1,sc1,set1,ka1,kc1,kids1,mn1,mx1,mode1,n1,neg1⟩:=m;have g:=hx0.node;obtain ⟨e0,e1,e2,e3,e4,e5,e6,e7⟩:=id g;simp only [MRe.val] at HC;clear g hx0 hx hq hn hf;go_wp2_with fail
     refine Calls.mono HC.o ?_;rintro e w3 ⟨rfl,hk3⟩;have K3:=gi (HKP.o.trans hk3);clear hk3
     cases q with
     | true=>
      have HN2:=gi (HN.o rfl);go_wp2;go_roundw
      case rel=> exact ⟨k + 1,by omega,by go_num,HN2.o,K3.o⟩
      case measure=> simp [intOf];omega
     | false=>
      have HF3:=gi (HF2.o rfl);go_wp2;go_ret;exact ⟨by rw [HR1.o,HF3.o];rfl,K2.o.trans K3.o⟩
    ·obtain rfl:k=kids.length:=by omega
     have h0:=all_true (p:=wholeT caps top) (l:=MRe.trees kids) (by rw [MRe.trees_length];exact HP.o);have H0:=gi h0;clear h0;go_wp2;go_ret;exact ⟨by rw [HR1.o,H0.o];rfl,K2.o.trans HKP.o⟩
theorem bounded_any (b o:Nat) (mn mx mode:Int) (w:World) (c3:w.cell? ⟨b,o + 3,none⟩=some (H J mn)) (c4:w.cell? ⟨b,o + 4,none⟩=some (H J mx)) (c5:w.cell? ⟨b,o + 5,none⟩=some (H J mode)):
  Calls Tryz.prog 137 #[.pointer (some ⟨b,o,none⟩)] w fun e w'=> e=.returned (F (!f3B mn mx mode))∧Keeps [] w w':=by
 obtain ⟨R,hR0⟩:∃ R,R=f3B mn mx mode:=⟨_,rfl⟩;rw [←hR0];have HR:=gi hR0;clear hR0
 by_cases h1:mn < 0
 ·have HR1:=gi (show R=true by rw [HR.o];simp [f3B,h1]);go_enter Tryz.func137,Tryz.ntmps137
  go_wp2;go_ret;exact ⟨by rw [HR1.o];rfl,Keeps.refl _ _⟩
 ·by_cases h2:32 < mn
  ·have HR1:=gi (show R=true by rw [HR.o];simp [f3B,h2]);go_enter Tryz.func137,Tryz.ntmps137
   go_wp2;go_ret;exact ⟨by rw [HR1.o];rfl,Keeps.refl _ _⟩
  ·by_cases h3:mode < 0
   ·have HR1:=gi (show R=true by rw [HR.o];simp [f3B,h3]);go_enter Tryz.func137,Tryz.ntmps137
    go_wp2;go_ret;exact ⟨by rw [HR1.o];rfl,Keeps.refl _ _⟩
   ·by_cases h4:2 < mode
    ·have HR1:=gi (show R=true by rw [HR.o];simp [f3B,h4]);go_enter Tryz.func137,Tryz.ntmps137
     go_wp2;go_ret;exact ⟨by rw [HR1.o];rfl,Keeps.refl _ _⟩
    ·have HR2:=gi (show R=(decide (mx < -1) || (decide (mx=0) || (decide (32 < mx) || (decide (0 < mx) && decide (mx < mn))))) by rw [HR.o];simp [f3B,h1,h2,h3,h4]);go_enter Tryz.func137,Tryz.ntmps137
     go_upto_region 3 with fail
     by_cases h5:mx= -1
     ·have HR1:=gi (show R=false by rw [HR2.o,h5];simp);subst h5
      go_quiet (fail)
      go_wp2;go_ret;exact ⟨by rw [HR1.o];rfl,(Keeps.refl _ _).drewN _⟩
     ·have h5b:(mx== -1)=false:=by simpa using h5
      by_cases h6:mx < 1
      ·have h6b:¬ 1≤mx:=by omega
       have HR1:=gi (show R=true by rw [HR2.o];by_cases hz:mx=0;simp [hz];have h9:mx < -1:=(by omega);simp [h9])
       go_quiet (fail)
       go_wp2;go_ret;exact ⟨by rw [HR1.o];rfl,(Keeps.refl _ _).drewN _⟩
      ·have h6b:1≤mx:=by omega
       by_cases h7:32 < mx
       ·have h7b:¬ mx≤32:=by omega
        have HR1:=gi (show R=true by rw [HR2.o];simp [h7])
        go_quiet (fail)
        go_wp2;go_ret;exact ⟨by rw [HR1.o];rfl,(Keeps.refl _ _).drewN _⟩
       ·have h7b:mx≤32:=by omega
        by_cases h8:mx < mn
        ·have h8b:¬ mn≤mx:=by omega
         have h9:0 < mx:=by omega
         have HR1:=gi (show R=true by rw [HR2.o];simp [h8,h9])
         go_quiet (fail)
         go_wp2;go_ret;exact ⟨by rw [HR1.o];rfl,(Keeps.refl _ _).drewN _⟩
        ·have h8b:mn≤mx:=by omega
         have h9:¬ mx < -1:=by omega
         have h10:¬ mx=0:=by omega
         have HR1:=gi (show R=false by rw [HR2.o];simp [h8,h7,h9,h10])
         go_quiet (fail)
         go_wp2;go_ret;exact ⟨by rw [HR1.o];rfl,(Keeps.refl _ _).drewN _⟩
theorem aspans_any (sa:Option Addr) (sc:Nat) (set:List (Int × Int)) (top:Int) (w:World) (hs:SpansIn w sa sc set) (ht:top≤2000000):
  Calls Tryz.prog 136 #[M sa set.length sc,H J top] w fun e w'=> e=.returned (F (spansB set top))∧Keeps [] w w':=by
 obtain ⟨R,hR0⟩:∃ R,R=spansB set top:=⟨_,rfl⟩;rw [←hR0];unfold spansB at hR0;have HS:=gi hs;have hcap:=hs.cap;have hle:=hs.le;unfold maxLen at hcap;clear hs
 by_cases h64:set.length≤64
 ·have HR:=gi (show R=spansGo top none set by rw [hR0];simp [h64]);have HT:=gi ht;have h64i:¬ (64:Int) < (set.length:Int):=by omega
  clear hR0 ht;go_enter Tryz.func136,Tryz.ntmps136
  go_wp2
  go_loopw [5,6,12] (fun _ _ i wr=> ∃ k:Nat,k≤set.length∧i=H J k∧spansGo top (pvS set k) (set.drop k)=spansGo top none set∧(∀ h,pvS set k=some h→0≤h∧h≤2000000)∧Keeps [] w wr) (fun _ _ i _=> set.length - (intOf i).toNat)
  case atStart=> exact ⟨0,Nat.zero_le _,rfl,rfl,(fun h hh=> by cases hh),Keeps.refl _ _⟩
  case round=>
   obtain ⟨k,hkk,rfl,hgo,hpv,hkp⟩:=hrel;have HKP:=gi hkp;have HGO:=gi hgo;have HPV:=gi hpv;clear hkp hgo hpv
   by_cases hlt:k < set.length
   ·obtain ⟨b,off,rfl,hb,hx⟩:=(HS.o.keep HKP.o).at_ (by omega);obtain ⟨e0,e1⟩:=hx k hlt;have hd:set.drop k=set[k]::set.drop (k + 1):=List.drop_eq_getElem_cons hlt;have hg:=HGO.o;rw [hd,spansGo] at hg;have hp1:pvS set (k + 1)=some set[k].2:=by show (set[k]?).map Prod.snd=_;rw [List.getElem?_eq_getElem hlt];rfl
    obtain ⟨s,hse⟩:∃ s,s=set[k]:=⟨_,rfl⟩;rw [←hse] at e0 e1 hg hp1;obtain ⟨lo,hi⟩:=s;have HG:=gi hg;have HP1:=gi hp1;have hkI:(k:Int) < (set.length:Int):=by omega
    have hk0:(0:Int)≤(k:Int):=by omega
    have HX:=gi hx;clear hg hp1 hd hse hx hb;simp only at e0 e1;go_upto_region 6 with fail
    obtain ⟨W,hWe⟩:∃ W,W=wr.alloc (.cells #[H J lo,H J hi] 86):=⟨_,rfl⟩;obtain ⟨G,hGe⟩:∃ G,G=wr.heap.size:=⟨_,rfl⟩;have hkW:Keeps [] wr W:=by rw [hWe];exact Keeps.a1 _ _
    have g0:W.cell? ⟨G,0,none⟩=some (H J lo):=by rw [hWe,hGe];exact cell_new _ _ _ 0
    have g1:W.cell? ⟨G,1,none⟩=some (H J hi):=by rw [hWe,hGe];exact cell_new _ _ _ 1
    rw [←hWe,←hGe];have KW:=gi (HKP.o.trans hkW);have HWW:=gi hkW;clear hWe hGe hkW e0 e1
    by_cases q1:lo < 0
    ·have HBAD:=gi (show badS top (pvS set k) (lo,hi)=true by simp [badS,q1])
     go_quiet (fail)
     go_wp2;go_ret;exact ⟨by rw [HR.o,←HG.o,HBAD.o];rfl,KW.o.drewN _⟩
    ·by_cases q2:hi < lo
     ·have HBAD:=gi (show badS top (pvS set k) (lo,hi)=true by simp [badS,q2])
      go_quiet (fail)
      go_wp2;go_ret;exact ⟨by rw [HR.o,←HG.o,HBAD.o];rfl,KW.o.drewN _⟩
     ·by_cases q3:top < hi
      ·have HBAD:=gi (show badS top (pvS set k) (lo,hi)=true by simp [badS,q3])
       go_quiet (fail)
       go_wp2;go_ret;exact ⟨by rw [HR.o,←HG.o,HBAD.o];rfl,KW.o.drewN _⟩
      ·by_cases hkz:k=0
       ·have hk9:¬ 0 < k:=by omega
        have hk8:¬ (0:Int) < (k:Int):=by omega
        have HBAD:=gi (show badS top (pvS set k) (lo,hi)=false by rw [hkz];simp [badS,q1,q2,q3,pvS]);have HKZ:=gi hkz;clear hkz
        go_quiet (fail)
        go_wp2;go_roundw
        case rel=> exact ⟨k + 1,by omega,by go_num,by rw [HP1.o,←HG.o,HBAD.o];rfl,(fun h hh=> by rw [HP1.o] at hh;cases hh;have:=HT.o;omega),KW.o.drewN _⟩
        case measure=> simp [intOf];omega
       ·obtain ⟨j,hj⟩:∃ j,k=j + 1:=⟨k - 1,by omega⟩;have hk9:0 < k:=by omega
        have hk8:(0:Int) < (k:Int):=by omega
        have hj2:j < set.length:=by omega
        have e2:=HWW.o.cell (HX.o j hj2).2 (by simp);have hpj:=pvS_succ hj hj2;obtain ⟨s,hse⟩:∃ s,s=set[j]'hj2:=⟨_,rfl⟩;rw [←hse] at e2 hpj;obtain ⟨pl,ph⟩:=s;obtain ⟨hh0,hh1⟩:=HPV.o ph hpj;simp only at e2;have HPJ:=gi hpj;have hw1:IntKind.i64.wrap ((k:Int) - 1)=(j:Int):=by rw [IntWalk.i64_in _ (by omega)];omega
        have hw2:IntKind.i64.wrap (ph + 2)=ph + 2:=IntWalk.i64_in _ (by omega);have hj0:(0:Int)≤(j:Int):=by omega
        have hj1:(j:Int) < (set.length:Int):=by omega
        clear hse hpj hj hkz
        by_cases q4:lo < ph + 2
        ·have HBAD:=gi (show badS top (pvS set k) (lo,hi)=true by rw [HPJ.o];have q5:lo≤ph + 1:=(by omega);simp [badS,q5])
         go_quiet (fail)
         go_wp2;go_ret;exact ⟨by rw [HR.o,←HG.o,HBAD.o];rfl,KW.o.drewN _⟩
        ·have HBAD:=gi (show badS top (pvS set k) (lo,hi)=false by rw [HPJ.o];have q5:¬ lo≤ph + 1:=(by omega);simp [badS,q1,q2,q3,q5])
         go_quiet (fail)
         go_wp2;go_roundw
         case rel=> exact ⟨k + 1,by omega,by go_num,by rw [HP1.o,←HG.o,HBAD.o];rfl,(fun h hh=> by rw [HP1.o] at hh;cases hh;have:=HT.o;omega),KW.o.drewN _⟩
         case measure=> simp [intOf];omega
   ·obtain rfl:k=set.length:=by omega
    have hfin:=HGO.o;rw [List.drop_length,spansGo] at hfin;have HFIN:=gi hfin;clear hfin;go_wp2;go_ret;exact ⟨by rw [HR.o,←HFIN.o];rfl,HKP.o⟩
 ·have HR:=gi (show R=false by rw [hR0];simp [h64]);have h64i:(64:Int) < (set.length:Int):=by omega
  clear hR0;go_enter Tryz.func136,Tryz.ntmps136
  go_wp2;go_ret;exact ⟨by rw [HR.o];rfl,Keeps.refl _ _⟩
def restB (ns:Nat) (mn mx mode n:Int) (neg:Bool):Bool:=decide (ns=0) && (decide (mn=0) && (decide (mx=0) && (decide (mode=0) && (decide (n=0) && !neg))))
theorem formed0 (ns nk:Nat) (mn mx mode n:Int) (neg:Bool) (caps:Int) (sp:Bool):formedB 0 ns nk mn mx mode n neg caps sp=(decide (nk=0) && restB ns mn mx mode n neg):=by
 rw [Bool.eq_iff_iff]
 cases neg <;> simp [formedB,f1B,f2B,f4B,f5B,kidsP,restB]
 all_goals omega
theorem formed1 (ns nk:Nat) (mn mx mode n:Int) (neg:Bool) (caps:Int) (sp:Bool):formedB 1 ns nk mn mx mode n neg caps sp=(decide (nk=0) && (sp && restB 0 mn mx mode n neg)):=by
 rw [Bool.eq_iff_iff]
 cases neg <;> cases sp <;> simp [formedB,f1B,f2B,f4B,f5B,kidsP,restB]
 all_goals omega
theorem formed2 (ns nk:Nat) (mn mx mode n:Int) (neg:Bool) (caps:Int) (sp:Bool):formedB 2 ns nk mn mx mode n neg caps sp=(decide (2≤nk) && restB ns mn mx mode n neg):=by
 rw [Bool.eq_iff_iff]
 cases neg <;> cases sp <;> simp [formedB,f1B,f2B,f4B,f5B,kidsP,restB]
 all_goals omega
theorem formed3 (ns nk:Nat) (mn mx mode n:Int) (neg:Bool) (caps:Int) (sp:Bool):formedB 3 ns nk mn mx mode n neg caps sp=(decide (2≤nk) && restB ns mn mx mode n neg):=by
 rw [Bool.eq_iff_iff]
 cases neg <;> cases sp <;> simp [formedB,f1B,f2B,f4B,f5B,kidsP,restB]
 all_goals omega
theorem formed4 (ns nk:Nat) (mn mx mode n:Int) (neg:Bool) (caps:Int) (sp:Bool):formedB 4 ns nk mn mx mode n neg caps sp=(decide (nk=1) && (!f3B mn mx mode && restB ns 0 0 0 n neg)):=by
 rw [Bool.eq_iff_iff]
 cases neg <;> cases sp <;> simp [formedB,f1B,f2B,f3B,f5B,kidsP,restB]
 all_goals omega
theorem formed5 (ns nk:Nat) (mn mx mode n:Int) (neg:Bool) (caps:Int) (sp:Bool):formedB 5 ns nk mn mx mode n neg caps sp=(decide (nk=1) && ((decide (1≤n) && decide (n≤caps)) && restB ns mn mx mode 0 neg)):=by
 rw [Bool.eq_iff_iff]
 cases neg <;> cases sp <;> simp [formedB,f1B,f2B,f4B,f5B,kidsP,restB]
 all_goals omega
theorem formed6 (ns nk:Nat) (mn mx mode n:Int) (neg:Bool) (caps:Int) (sp:Bool):formedB 6 ns nk mn mx mode n neg caps sp=(decide (nk=0) && ((decide (1≤n) && decide (n≤caps)) && restB ns mn mx mode 0 neg)):=by
 rw [Bool.eq_iff_iff]
 cases neg <;> cases sp <;> simp [formedB,f1B,f2B,f4B,f5B,kidsP,restB]
 all_goals omega
theorem formed7 (ns nk:Nat) (mn mx mode n:Int) (neg:Bool) (caps:Int) (sp:Bool):formedB 7 ns nk mn mx mode n neg caps sp=(decide (nk=1) && restB ns mn mx mode n false):=by
 rw [Bool.eq_iff_iff]
 cases neg <;> cases sp <;> simp [formedB,f1B,f2B,f4B,f5B,kidsP,restB]
 all_goals omega
theorem formed8 (ns nk:Nat) (mn mx mode n:Int) (neg:Bool) (caps:Int) (sp:Bool):formedB 8 ns nk mn mx mode n neg caps sp=(decide (nk=1) && restB ns mn mx mode n false):=by
 rw [Bool.eq_iff_iff]
 cases neg <;> cases sp <;> simp [formedB,f1B,f2B,f4B,f5B,kidsP,restB]
 all_goals omega
theorem formed9 (ns nk:Nat) (mn mx mode n:Int) (neg:Bool) (caps:Int) (sp:Bool):formedB 9 ns nk mn mx mode n neg caps sp=(decide (nk=1) && restB ns mn mx mode n neg):=by
 rw [Bool.eq_iff_iff]
 cases neg <;> cases sp <;> simp [formedB,f1B,f2B,f4B,f5B,kidsP,restB]
 all_goals omega
theorem formed10 (ns nk:Nat) (mn mx mode n:Int) (neg:Bool) (caps:Int) (sp:Bool):formedB 10 ns nk mn mx mode n neg caps sp=(decide (nk=2) && ((decide (1≤n) && decide (n≤caps)) && restB ns mn mx mode 0 neg)):=by
 rw [Bool.eq_iff_iff]
 cases neg <;> cases sp <;> simp [formedB,f1B,f2B,f4B,f5B,kidsP,restB]
 all_goals omega
theorem formed11 (ns nk:Nat) (mn mx mode n:Int) (neg:Bool) (caps:Int) (sp:Bool):formedB 11 ns nk mn mx mode n neg caps sp=(decide (nk=0) && ((decide (0≤n) && decide (n≤5)) && restB ns mn mx mode 0 neg)):=by
 rw [Bool.eq_iff_iff]
 cases neg <;> cases sp <;> simp [formedB,f1B,f2B,f4B,f5B,kidsP,restB]
 all_goals omega
theorem formedX (op:Int) (ns nk:Nat) (mn mx mode n:Int) (neg:Bool) (caps:Int) (sp:Bool) (h:op < 0∨11 < op):formedB op ns nk mn mx mode n neg caps sp=false:=by
 unfold formedB
 have:f1B op (kidsP op).1 (kidsP op).2 nk=true:=by
  rcases h with h | h <;> simp [f1B,h]
 rw [this]
 rfl
end Go.Proofs.YtjnlkjlbejelgaaGreat
