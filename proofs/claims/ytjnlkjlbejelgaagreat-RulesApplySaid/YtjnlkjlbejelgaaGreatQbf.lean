/- Part 32 of the proof. No condition: every lemma says its own. -/
import Derived.Test.YtjnlkjlbejelgaaGreatQat
import Derived.Test.YtjnlkjlbejelgaaGreatQai
namespace Go.Proofs.YtjnlkjlbejelgaaGreat
open Go.RowKit
open Go.Value renaming int→H,slice→M,bool→F
open Go.IntKind renaming i64→J
set_option maxRecDepth 100000
set_option maxHeartbeats 16000000
theorem ruses_any (m:MRe):∀ (w:World),m.OK w→m.tree.WFq→
  Calls Tryz.prog 98 #[m.val] w fun e w'=> e=.returned (H J (usesT m.tree:Int))∧Keeps [] w w':=by
 induction m using MRe.induct with
 | h op sa sc set ka kc kids mn mx mode n neg ih=>
  intro w k1 f1;obtain ⟨U,hU0⟩:∃ U,U=usesT (MRe.tree (.node op sa sc set ka kc kids mn mx mode n neg)):=⟨_,rfl⟩;rw [←hU0];replace hU0:U=usesOfT (.node op set (MRe.trees kids) mn mx mode n neg) ||| usesL (MRe.trees kids):=hU0;have hno:=wfq_node f1;have HI:=gi (fun k (hk:k∈kids) W (h:Keeps [] w W)=> ih k hk W ((k1.kid hk).keep h) (wfq_kid f1 hk));have HNA:=gi (fun k (hk:k∈kids) W (h:Keeps [] w W)=> rnull_any k W ((k1.kid hk).keep h) (wfq_kid f1 hk));have hcap:=k1.nodes.cap;have hle:=k1.nodes.le;unfold maxLen at hcap;have HK:=gi k1.kids;simp only [MRe.val];obtain ⟨B,Y,c0,c1,c2,c3,c4,c5,c6,c7,HYE,HBE,KY⟩:=pre1 w op sa sc set ka kc kids mn mx mode n neg;clear ih k1 f1
  by_cases h4:op=4
  ·have hlen0:kids.length=1:=hno.hone (by simp [h4]);have hln0:0 < kids.length:=by omega
   have hln:(0:Int) < (kids.length:Int):=by omega
   obtain ⟨b1,o1,k0,hka,hk0m,hk00,hk0a,hk0o⟩:=HK.o.head hln0;obtain ⟨r,hr⟩:=trees_head hk00;have hg:hdNull (MRe.trees kids)=nullP k0.tree:=by rw [hr];rfl
   have HNL:=HNA.o k0 hk0m;obtain ⟨q,hq⟩:∃ q,q=nullP k0.tree:=⟨_,rfl⟩;simp only [←hq] at HNL;rw [←hq] at hg;replace hU0:U=((if mode=2 then 8 else 0) ||| (if q=true then 32 else 0)) ||| usesL (MRe.trees kids):=by rw [hU0,usesOfT,hg];simp [h4]
   subst h4;subst hka;obtain ⟨op1,sa1,sc1,set1,ka1,kc1,kids1,mn1,mx1,mode1,n1,neg1⟩:=k0;have g:=hk0a.node;obtain ⟨e0,e1,e2,e3,e4,e5,e6,e7⟩:=id g;obtain ⟨d0,d1,d2,d3,d4,d5,d6,d7⟩:=KY.o.c8 e0 e1 e2 e3 e4 e5 e6 e7;simp only [MRe.val] at HNL;have HNL:=gi HNL;clear g e0 e1 e2 e3 e4 e5 e6 e7 hk0m hk00 hk0a hk0o hr hg hq hlen0 hno HNA
   by_cases m2:mode=2
   ·subst m2;rw [if_pos rfl] at hU0;go_enter Tryz.func98,Tryz.ntmps98
    go_upto_region 1 with fail
    rw [←HYE.o,←HBE.o];go_wp2_with fail
    refine Calls.mono (HNL.o _ KY.o) ?_;rintro e w9 ⟨rfl,hk9⟩;have K9:=gi hk9;obtain ⟨t0,t1,t2,t3,t4,t5,t6,t7⟩:=hk9.c8 c0 c1 c2 c3 c4 c5 c6 c7;clear hk9 d0 d1 d2 d3 d4 d5 d6 d7 HNL
    cases q with
    | false=>
     have HU0:=gi (show 8 ||| usesL ((MRe.trees kids).drop 0)=U by rw [hU0];rfl);clear hU0;go_wp2
     go_loopw [3,4] (fun v i wr=> ∃ k u:Nat,k≤kids.length∧i=H J k∧v=H J (u:Int)∧u < 128∧u ||| usesL ((MRe.trees kids).drop k)=U∧Keeps [] Y wr) (fun _ i _=> kids.length - (intOf i).toNat)
     case atStart=> exact ⟨0,8,Nat.zero_le _,rfl,rfl,by omega,HU0.o,K9.o⟩
     case round=>
      obtain ⟨k,u,hkk,rfl,rfl,hu,hpk,hkp⟩:=hrel;have HKP:=gi hkp;have y2:=hkp.c c2;clear hkp c0 c1 c2 c3 c4 c5 c6 c7
      by_cases hlt:k < kids.length
      ·obtain ⟨b,off,hkb,hb,hx⟩:=(HK.o.keep (KY.o.trans HKP.o)).nodes.kid (by omega)
       cases hkb
       have hx0:=hx k hlt;have HC:=gi (HI.o kids[k] (List.getElem_mem hlt) wr (KY.o.trans HKP.o));rw [trees_drop kids k hlt,usesL,←Nat.or_assoc] at hpk
       generalize kids[k]=m at *
       obtain ⟨q,hq⟩:∃ q,q=usesT m.tree:=⟨_,rfl⟩;have hq128:q < 128:=by rw [hq];exact usesT_lt _
       rw [←hq] at HC hpk;have hor:=bits_or hu hq128;have HO:=gi (or_lt hu hq128);have HP:=gi hpk;obtain ⟨op1,sa1,sc1,set1,ka1,kc1,kids1,mn1,mx1,mode1,n1,neg1⟩:=m;have g:=hx0.node;obtain ⟨e0,e1,e2,e3,e4,e5,e6,e7⟩:=id g;simp only [MRe.val] at HC;clear g hx0 hx hq hpk hu hq128;go_wp2_with fail
       refine Calls.mono HC.o ?_;rintro e w3 ⟨rfl,hk3⟩;have K3:=gi (HKP.o.trans hk3);clear hk3;go_wp2;go_roundw
       case rel=> exact ⟨k + 1,u ||| q,by omega,by go_num,rfl,HO.o,HP.o,K3.o⟩
       case measure=> simp [intOf];omega
      ·obtain rfl:k=kids.length:=by omega
       have h0:u=U:=by
        rw [List.drop_of_length_le (by rw [MRe.trees_length];exact Nat.le_refl _)] at hpk
        simpa [usesL] using hpk
       have H0:=gi h0;clear h0 hpk;go_wp2;go_ret;exact ⟨by rw [←H0.o];rfl,KY.o.trans HKP.o⟩
    | true=>
     have HU0:=gi (show 40 ||| usesL ((MRe.trees kids).drop 0)=U by rw [hU0];rfl);have hb32:bits .or .i64 8 32=40:=by decide
     clear hU0;go_wp2
     go_loopw [3,4] (fun v i wr=> ∃ k u:Nat,k≤kids.length∧i=H J k∧v=H J (u:Int)∧u < 128∧u ||| usesL ((MRe.trees kids).drop k)=U∧Keeps [] Y wr) (fun _ i _=> kids.length - (intOf i).toNat)
     case atStart=> exact ⟨0,40,Nat.zero_le _,rfl,rfl,by omega,HU0.o,K9.o⟩
     case round=>
      obtain ⟨k,u,hkk,rfl,rfl,hu,hpk,hkp⟩:=hrel;have HKP:=gi hkp;have y2:=hkp.c c2;clear hkp c0 c1 c2 c3 c4 c5 c6 c7
      by_cases hlt:k < kids.length
      ·obtain ⟨b,off,hkb,hb,hx⟩:=(HK.o.keep (KY.o.trans HKP.o)).nodes.kid (by omega)
       cases hkb
       have hx0:=hx k hlt;have HC:=gi (HI.o kids[k] (List.getElem_mem hlt) wr (KY.o.trans HKP.o));rw [trees_drop kids k hlt,usesL,←Nat.or_assoc] at hpk
       generalize kids[k]=m at *
       obtain ⟨q,hq⟩:∃ q,q=usesT m.tree:=⟨_,rfl⟩;have hq128:q < 128:=by rw [hq];exact usesT_lt _
       rw [←hq] at HC hpk;have hor:=bits_or hu hq128;have HO:=gi (or_lt hu hq128);have HP:=gi hpk;obtain ⟨op1,sa1,sc1,set1,ka1,kc1,kids1,mn1,mx1,mode1,n1,neg1⟩:=m;have g:=hx0.node;obtain ⟨e0,e1,e2,e3,e4,e5,e6,e7⟩:=id g;simp only [MRe.val] at HC;clear g hx0 hx hq hpk hu hq128;go_wp2_with fail
       refine Calls.mono HC.o ?_;rintro e w3 ⟨rfl,hk3⟩;have K3:=gi (HKP.o.trans hk3);clear hk3;go_wp2;go_roundw
       case rel=> exact ⟨k + 1,u ||| q,by omega,by go_num,rfl,HO.o,HP.o,K3.o⟩
       case measure=> simp [intOf];omega
      ·obtain rfl:k=kids.length:=by omega
       have h0:u=U:=by
        rw [List.drop_of_length_le (by rw [MRe.trees_length];exact Nat.le_refl _)] at hpk
        simpa [usesL] using hpk
       have H0:=gi h0;clear h0 hpk;go_wp2;go_ret;exact ⟨by rw [←H0.o];rfl,KY.o.trans HKP.o⟩
   ·have hb2:(mode==2)=false:=by simpa using m2
    rw [if_neg m2] at hU0;go_enter Tryz.func98,Tryz.ntmps98
    go_upto_region 1 with fail
    rw [←HYE.o,←HBE.o];go_wp2_with fail
    refine Calls.mono (HNL.o _ KY.o) ?_;rintro e w9 ⟨rfl,hk9⟩;have K9:=gi hk9;obtain ⟨t0,t1,t2,t3,t4,t5,t6,t7⟩:=hk9.c8 c0 c1 c2 c3 c4 c5 c6 c7;clear hk9 d0 d1 d2 d3 d4 d5 d6 d7 HNL
    cases q with
    | false=>
     have HU0:=gi (show 0 ||| usesL ((MRe.trees kids).drop 0)=U by rw [hU0];rfl);clear hU0;go_wp2
     go_loopw [3,4] (fun v i wr=> ∃ k u:Nat,k≤kids.length∧i=H J k∧v=H J (u:Int)∧u < 128∧u ||| usesL ((MRe.trees kids).drop k)=U∧Keeps [] Y wr) (fun _ i _=> kids.length - (intOf i).toNat)
     case atStart=> exact ⟨0,0,Nat.zero_le _,rfl,rfl,by omega,HU0.o,K9.o⟩
     case round=>
      obtain ⟨k,u,hkk,rfl,rfl,hu,hpk,hkp⟩:=hrel;have HKP:=gi hkp;have y2:=hkp.c c2;clear hkp c0 c1 c2 c3 c4 c5 c6 c7
      by_cases hlt:k < kids.length
      ·obtain ⟨b,off,hkb,hb,hx⟩:=(HK.o.keep (KY.o.trans HKP.o)).nodes.kid (by omega)
       cases hkb
       have hx0:=hx k hlt;have HC:=gi (HI.o kids[k] (List.getElem_mem hlt) wr (KY.o.trans HKP.o));rw [trees_drop kids k hlt,usesL,←Nat.or_assoc] at hpk
       generalize kids[k]=m at *
       obtain ⟨q,hq⟩:∃ q,q=usesT m.tree:=⟨_,rfl⟩;have hq128:q < 128:=by rw [hq];exact usesT_lt _
       rw [←hq] at HC hpk;have hor:=bits_or hu hq128;have HO:=gi (or_lt hu hq128);have HP:=gi hpk;obtain ⟨op1,sa1,sc1,set1,ka1,kc1,kids1,mn1,mx1,mode1,n1,neg1⟩:=m;have g:=hx0.node;obtain ⟨e0,e1,e2,e3,e4,e5,e6,e7⟩:=id g;simp only [MRe.val] at HC;clear g hx0 hx hq hpk hu hq128;go_wp2_with fail
       refine Calls.mono HC.o ?_;rintro e w3 ⟨rfl,hk3⟩;have K3:=gi (HKP.o.trans hk3);clear hk3;go_wp2;go_roundw
       case rel=> exact ⟨k + 1,u ||| q,by omega,by go_num,rfl,HO.o,HP.o,K3.o⟩
       case measure=> simp [intOf];omega
      ·obtain rfl:k=kids.length:=by omega
       have h0:u=U:=by
        rw [List.drop_of_length_le (by rw [MRe.trees_length];exact Nat.le_refl _)] at hpk
        simpa [usesL] using hpk
       have H0:=gi h0;clear h0 hpk;go_wp2;go_ret;exact ⟨by rw [←H0.o];rfl,KY.o.trans HKP.o⟩
    | true=>
     have HU0:=gi (show 32 ||| usesL ((MRe.trees kids).drop 0)=U by rw [hU0];rfl);have hb32:bits .or .i64 0 32=32:=by decide
     clear hU0;go_wp2
     go_loopw [3,4] (fun v i wr=> ∃ k u:Nat,k≤kids.length∧i=H J k∧v=H J (u:Int)∧u < 128∧u ||| usesL ((MRe.trees kids).drop k)=U∧Keeps [] Y wr) (fun _ i _=> kids.length - (intOf i).toNat)
     case atStart=> exact ⟨0,32,Nat.zero_le _,rfl,rfl,by omega,HU0.o,K9.o⟩
     case round=>
      obtain ⟨k,u,hkk,rfl,rfl,hu,hpk,hkp⟩:=hrel;have HKP:=gi hkp;have y2:=hkp.c c2;clear hkp c0 c1 c2 c3 c4 c5 c6 c7
      by_cases hlt:k < kids.length
      ·obtain ⟨b,off,hkb,hb,hx⟩:=(HK.o.keep (KY.o.trans HKP.o)).nodes.kid (by omega)
       cases hkb
       have hx0:=hx k hlt;have HC:=gi (HI.o kids[k] (List.getElem_mem hlt) wr (KY.o.trans HKP.o));rw [trees_drop kids k hlt,usesL,←Nat.or_assoc] at hpk
       generalize kids[k]=m at *
       obtain ⟨q,hq⟩:∃ q,q=usesT m.tree:=⟨_,rfl⟩;have hq128:q < 128:=by rw [hq];exact usesT_lt _
       rw [←hq] at HC hpk;have hor:=bits_or hu hq128;have HO:=gi (or_lt hu hq128);have HP:=gi hpk;obtain ⟨op1,sa1,sc1,set1,ka1,kc1,kids1,mn1,mx1,mode1,n1,neg1⟩:=m;have g:=hx0.node;obtain ⟨e0,e1,e2,e3,e4,e5,e6,e7⟩:=id g;simp only [MRe.val] at HC;clear g hx0 hx hq hpk hu hq128;go_wp2_with fail
       refine Calls.mono HC.o ?_;rintro e w3 ⟨rfl,hk3⟩;have K3:=gi (HKP.o.trans hk3);clear hk3;go_wp2;go_roundw
       case rel=> exact ⟨k + 1,u ||| q,by omega,by go_num,rfl,HO.o,HP.o,K3.o⟩
       case measure=> simp [intOf];omega
      ·obtain rfl:k=kids.length:=by omega
       have h0:u=U:=by
        rw [List.drop_of_length_le (by rw [MRe.trees_length];exact Nat.le_refl _)] at hpk
        simpa [usesL] using hpk
       have H0:=gi h0;clear h0 hpk;go_wp2;go_ret;exact ⟨by rw [←H0.o];rfl,KY.o.trans HKP.o⟩
  ·have ho:op=0∨op=1∨op=2∨op=3∨op=5∨op=6∨op=7∨op=8∨op=9∨op=10∨op=11:=by have:=hno.hop;omega
   clear hno HNA h4
   rcases ho with rfl | rfl | rfl | rfl | rfl | rfl | rfl | rfl | rfl | rfl | rfl
   ·have HU0:=gi (show 0 ||| usesL ((MRe.trees kids).drop 0)=U by rw [hU0];rfl);clear hU0;go_enter Tryz.func98,Tryz.ntmps98
    go_upto_region 1 with fail
    rw [←HYE.o,←HBE.o];go_wp2
    go_loopw [3,4] (fun v i wr=> ∃ k u:Nat,k≤kids.length∧i=H J k∧v=H J (u:Int)∧u < 128∧u ||| usesL ((MRe.trees kids).drop k)=U∧Keeps [] Y wr) (fun _ i _=> kids.length - (intOf i).toNat)
    case atStart=> exact ⟨0,0,Nat.zero_le _,rfl,rfl,by omega,HU0.o,Keeps.refl _ _⟩
    case round=>
     obtain ⟨k,u,hkk,rfl,rfl,hu,hpk,hkp⟩:=hrel;have HKP:=gi hkp;have y2:=hkp.c c2;clear hkp c0 c1 c2 c3 c4 c5 c6 c7
     by_cases hlt:k < kids.length
     ·obtain ⟨b,off,hkb,hb,hx⟩:=(HK.o.keep (KY.o.trans HKP.o)).nodes.kid (by omega)
      cases hkb
      have hx0:=hx k hlt;have HC:=gi (HI.o kids[k] (List.getElem_mem hlt) wr (KY.o.trans HKP.o));rw [trees_drop kids k hlt,usesL,←Nat.or_assoc] at hpk
      generalize kids[k]=m at *
      obtain ⟨q,hq⟩:∃ q,q=usesT m.tree:=⟨_,rfl⟩;have hq128:q < 128:=by rw [hq];exact usesT_lt _
      rw [←hq] at HC hpk;have hor:=bits_or hu hq128;have HO:=gi (or_lt hu hq128);have HP:=gi hpk;obtain ⟨op1,sa1,sc1,set1,ka1,kc1,kids1,mn1,mx1,mode1,n1,neg1⟩:=m;have g:=hx0.node;obtain ⟨e0,e1,e2,e3,e4,e5,e6,e7⟩:=id g;simp only [MRe.val] at HC;clear g hx0 hx hq hpk hu hq128;go_wp2_with fail
      refine Calls.mono HC.o ?_;rintro e w3 ⟨rfl,hk3⟩;have K3:=gi (HKP.o.trans hk3);clear hk3;go_wp2;go_roundw
      case rel=> exact ⟨k + 1,u ||| q,by omega,by go_num,rfl,HO.o,HP.o,K3.o⟩
      case measure=> simp [intOf];omega
     ·obtain rfl:k=kids.length:=by omega
      have h0:u=U:=by
       rw [List.drop_of_length_le (by rw [MRe.trees_length];exact Nat.le_refl _)] at hpk
       simpa [usesL] using hpk
      have H0:=gi h0;clear h0 hpk;go_wp2;go_ret;exact ⟨by rw [←H0.o];rfl,KY.o.trans HKP.o⟩
   ·have HU0:=gi (show 0 ||| usesL ((MRe.trees kids).drop 0)=U by rw [hU0];rfl);clear hU0;go_enter Tryz.func98,Tryz.ntmps98
    go_upto_region 1 with fail
    rw [←HYE.o,←HBE.o];go_wp2
    go_loopw [3,4] (fun v i wr=> ∃ k u:Nat,k≤kids.length∧i=H J k∧v=H J (u:Int)∧u < 128∧u ||| usesL ((MRe.trees kids).drop k)=U∧Keeps [] Y wr) (fun _ i _=> kids.length - (intOf i).toNat)
    case atStart=> exact ⟨0,0,Nat.zero_le _,rfl,rfl,by omega,HU0.o,Keeps.refl _ _⟩
    case round=>
     obtain ⟨k,u,hkk,rfl,rfl,hu,hpk,hkp⟩:=hrel;have HKP:=gi hkp;have y2:=hkp.c c2;clear hkp c0 c1 c2 c3 c4 c5 c6 c7
     by_cases hlt:k < kids.length
     ·obtain ⟨b,off,hkb,hb,hx⟩:=(HK.o.keep (KY.o.trans HKP.o)).nodes.kid (by omega)
      cases hkb
      have hx0:=hx k hlt;have HC:=gi (HI.o kids[k] (List.getElem_mem hlt) wr (KY.o.trans HKP.o));rw [trees_drop kids k hlt,usesL,←Nat.or_assoc] at hpk
      generalize kids[k]=m at *
      obtain ⟨q,hq⟩:∃ q,q=usesT m.tree:=⟨_,rfl⟩;have hq128:q < 128:=by rw [hq];exact usesT_lt _
      rw [←hq] at HC hpk;have hor:=bits_or hu hq128;have HO:=gi (or_lt hu hq128);have HP:=gi hpk;obtain ⟨op1,sa1,sc1,set1,ka1,kc1,kids1,mn1,mx1,mode1,n1,neg1⟩:=m;have g:=hx0.node;obtain ⟨e0,e1,e2,e3,e4,e5,e6,e7⟩:=id g;simp only [MRe.val] at HC;clear g hx0 hx hq hpk hu hq128;go_wp2_with fail
      refine Calls.mono HC.o ?_;rintro e w3 ⟨rfl,hk3⟩;have K3:=gi (HKP.o.trans hk3);clear hk3;go_wp2;go_roundw
      case rel=> exact ⟨k + 1,u ||| q,by omega,by go_num,rfl,HO.o,HP.o,K3.o⟩
      case measure=> simp [intOf];omega
     ·obtain rfl:k=kids.length:=by omega
      have h0:u=U:=by
       rw [List.drop_of_length_le (by rw [MRe.trees_length];exact Nat.le_refl _)] at hpk
       simpa [usesL] using hpk
      have H0:=gi h0;clear h0 hpk;go_wp2;go_ret;exact ⟨by rw [←H0.o];rfl,KY.o.trans HKP.o⟩
   ·have HU0:=gi (show 0 ||| usesL ((MRe.trees kids).drop 0)=U by rw [hU0];rfl);clear hU0;go_enter Tryz.func98,Tryz.ntmps98
    go_upto_region 1 with fail
    rw [←HYE.o,←HBE.o];go_wp2
    go_loopw [3,4] (fun v i wr=> ∃ k u:Nat,k≤kids.length∧i=H J k∧v=H J (u:Int)∧u < 128∧u ||| usesL ((MRe.trees kids).drop k)=U∧Keeps [] Y wr) (fun _ i _=> kids.length - (intOf i).toNat)
    case atStart=> exact ⟨0,0,Nat.zero_le _,rfl,rfl,by omega,HU0.o,Keeps.refl _ _⟩
    case round=>
     obtain ⟨k,u,hkk,rfl,rfl,hu,hpk,hkp⟩:=hrel;have HKP:=gi hkp;have y2:=hkp.c c2;clear hkp c0 c1 c2 c3 c4 c5 c6 c7
     by_cases hlt:k < kids.length
     ·obtain ⟨b,off,hkb,hb,hx⟩:=(HK.o.keep (KY.o.trans HKP.o)).nodes.kid (by omega)
      cases hkb
      have hx0:=hx k hlt;have HC:=gi (HI.o kids[k] (List.getElem_mem hlt) wr (KY.o.trans HKP.o));rw [trees_drop kids k hlt,usesL,←Nat.or_assoc] at hpk
      generalize kids[k]=m at *
      obtain ⟨q,hq⟩:∃ q,q=usesT m.tree:=⟨_,rfl⟩;have hq128:q < 128:=by rw [hq];exact usesT_lt _
      rw [←hq] at HC hpk;have hor:=bits_or hu hq128;have HO:=gi (or_lt hu hq128);have HP:=gi hpk;obtain ⟨op1,sa1,sc1,set1,ka1,kc1,kids1,mn1,mx1,mode1,n1,neg1⟩:=m;have g:=hx0.node;obtain ⟨e0,e1,e2,e3,e4,e5,e6,e7⟩:=id g;simp only [MRe.val] at HC;clear g hx0 hx hq hpk hu hq128;go_wp2_with fail
      refine Calls.mono HC.o ?_;rintro e w3 ⟨rfl,hk3⟩;have K3:=gi (HKP.o.trans hk3);clear hk3;go_wp2;go_roundw
      case rel=> exact ⟨k + 1,u ||| q,by omega,by go_num,rfl,HO.o,HP.o,K3.o⟩
      case measure=> simp [intOf];omega
     ·obtain rfl:k=kids.length:=by omega
      have h0:u=U:=by
       rw [List.drop_of_length_le (by rw [MRe.trees_length];exact Nat.le_refl _)] at hpk
       simpa [usesL] using hpk
      have H0:=gi h0;clear h0 hpk;go_wp2;go_ret;exact ⟨by rw [←H0.o];rfl,KY.o.trans HKP.o⟩
   ·have HU0:=gi (show 0 ||| usesL ((MRe.trees kids).drop 0)=U by rw [hU0];rfl);clear hU0;go_enter Tryz.func98,Tryz.ntmps98
    go_upto_region 1 with fail
    rw [←HYE.o,←HBE.o];go_wp2
    go_loopw [3,4] (fun v i wr=> ∃ k u:Nat,k≤kids.length∧i=H J k∧v=H J (u:Int)∧u < 128∧u ||| usesL ((MRe.trees kids).drop k)=U∧Keeps [] Y wr) (fun _ i _=> kids.length - (intOf i).toNat)
    case atStart=> exact ⟨0,0,Nat.zero_le _,rfl,rfl,by omega,HU0.o,Keeps.refl _ _⟩
    case round=>
     obtain ⟨k,u,hkk,rfl,rfl,hu,hpk,hkp⟩:=hrel;have HKP:=gi hkp;have y2:=hkp.c c2;clear hkp c0 c1 c2 c3 c4 c5 c6 c7
     by_cases hlt:k < kids.length
     ·obtain ⟨b,off,hkb,hb,hx⟩:=(HK.o.keep (KY.o.trans HKP.o)).nodes.kid (by omega)
      cases hkb
      have hx0:=hx k hlt;have HC:=gi (HI.o kids[k] (List.getElem_mem hlt) wr (KY.o.trans HKP.o));rw [trees_drop kids k hlt,usesL,←Nat.or_assoc] at hpk
      generalize kids[k]=m at *
      obtain ⟨q,hq⟩:∃ q,q=usesT m.tree:=⟨_,rfl⟩;have hq128:q < 128:=by rw [hq];exact usesT_lt _
      rw [←hq] at HC hpk;have hor:=bits_or hu hq128;have HO:=gi (or_lt hu hq128);have HP:=gi hpk;obtain ⟨op1,sa1,sc1,set1,ka1,kc1,kids1,mn1,mx1,mode1,n1,neg1⟩:=m;have g:=hx0.node;obtain ⟨e0,e1,e2,e3,e4,e5,e6,e7⟩:=id g;simp only [MRe.val] at HC;clear g hx0 hx hq hpk hu hq128;go_wp2_with fail
      refine Calls.mono HC.o ?_;rintro e w3 ⟨rfl,hk3⟩;have K3:=gi (HKP.o.trans hk3);clear hk3;go_wp2;go_roundw
      case rel=> exact ⟨k + 1,u ||| q,by omega,by go_num,rfl,HO.o,HP.o,K3.o⟩
      case measure=> simp [intOf];omega
     ·obtain rfl:k=kids.length:=by omega
      have h0:u=U:=by
       rw [List.drop_of_length_le (by rw [MRe.trees_length];exact Nat.le_refl _)] at hpk
       simpa [usesL] using hpk
      have H0:=gi h0;clear h0 hpk;go_wp2;go_ret;exact ⟨by rw [←H0.o];rfl,KY.o.trans HKP.o⟩
   ·have HU0:=gi (show 64 ||| usesL ((MRe.trees kids).drop 0)=U by rw [hU0];rfl);clear hU0;go_enter Tryz.func98,Tryz.ntmps98
    go_upto_region 1 with fail
    rw [←HYE.o,←HBE.o];go_wp2
    go_loopw [3,4] (fun v i wr=> ∃ k u:Nat,k≤kids.length∧i=H J k∧v=H J (u:Int)∧u < 128∧u ||| usesL ((MRe.trees kids).drop k)=U∧Keeps [] Y wr) (fun _ i _=> kids.length - (intOf i).toNat)
    case atStart=> exact ⟨0,64,Nat.zero_le _,rfl,rfl,by omega,HU0.o,Keeps.refl _ _⟩
    case round=>
     obtain ⟨k,u,hkk,rfl,rfl,hu,hpk,hkp⟩:=hrel;have HKP:=gi hkp;have y2:=hkp.c c2;clear hkp c0 c1 c2 c3 c4 c5 c6 c7
     by_cases hlt:k < kids.length
     ·obtain ⟨b,off,hkb,hb,hx⟩:=(HK.o.keep (KY.o.trans HKP.o)).nodes.kid (by omega)
      cases hkb
      have hx0:=hx k hlt;have HC:=gi (HI.o kids[k] (List.getElem_mem hlt) wr (KY.o.trans HKP.o));rw [trees_drop kids k hlt,usesL,←Nat.or_assoc] at hpk
      generalize kids[k]=m at *
      obtain ⟨q,hq⟩:∃ q,q=usesT m.tree:=⟨_,rfl⟩;have hq128:q < 128:=by rw [hq];exact usesT_lt _
      rw [←hq] at HC hpk;have hor:=bits_or hu hq128;have HO:=gi (or_lt hu hq128);have HP:=gi hpk;obtain ⟨op1,sa1,sc1,set1,ka1,kc1,kids1,mn1,mx1,mode1,n1,neg1⟩:=m;have g:=hx0.node;obtain ⟨e0,e1,e2,e3,e4,e5,e6,e7⟩:=id g;simp only [MRe.val] at HC;clear g hx0 hx hq hpk hu hq128;go_wp2_with fail
      refine Calls.mono HC.o ?_;rintro e w3 ⟨rfl,hk3⟩;have K3:=gi (HKP.o.trans hk3);clear hk3;go_wp2;go_roundw
      case rel=> exact ⟨k + 1,u ||| q,by omega,by go_num,rfl,HO.o,HP.o,K3.o⟩
      case measure=> simp [intOf];omega
     ·obtain rfl:k=kids.length:=by omega
      have h0:u=U:=by
       rw [List.drop_of_length_le (by rw [MRe.trees_length];exact Nat.le_refl _)] at hpk
       simpa [usesL] using hpk
      have H0:=gi h0;clear h0 hpk;go_wp2;go_ret;exact ⟨by rw [←H0.o];rfl,KY.o.trans HKP.o⟩
   ·have HU0:=gi (show 1 ||| usesL ((MRe.trees kids).drop 0)=U by rw [hU0];rfl);clear hU0;go_enter Tryz.func98,Tryz.ntmps98
    go_upto_region 1 with fail
    rw [←HYE.o,←HBE.o];go_wp2
    go_loopw [3,4] (fun v i wr=> ∃ k u:Nat,k≤kids.length∧i=H J k∧v=H J (u:Int)∧u < 128∧u ||| usesL ((MRe.trees kids).drop k)=U∧Keeps [] Y wr) (fun _ i _=> kids.length - (intOf i).toNat)
    case atStart=> exact ⟨0,1,Nat.zero_le _,rfl,rfl,by omega,HU0.o,Keeps.refl _ _⟩
    case round=>
     obtain ⟨k,u,hkk,rfl,rfl,hu,hpk,hkp⟩:=hrel;have HKP:=gi hkp;have y2:=hkp.c c2;clear hkp c0 c1 c2 c3 c4 c5 c6 c7
     by_cases hlt:k < kids.length
     ·obtain ⟨b,off,hkb,hb,hx⟩:=(HK.o.keep (KY.o.trans HKP.o)).nodes.kid (by omega)
      cases hkb
      have hx0:=hx k hlt;have HC:=gi (HI.o kids[k] (List.getElem_mem hlt) wr (KY.o.trans HKP.o));rw [trees_drop kids k hlt,usesL,←Nat.or_assoc] at hpk
      generalize kids[k]=m at *
      obtain ⟨q,hq⟩:∃ q,q=usesT m.tree:=⟨_,rfl⟩;have hq128:q < 128:=by rw [hq];exact usesT_lt _
      rw [←hq] at HC hpk;have hor:=bits_or hu hq128;have HO:=gi (or_lt hu hq128);have HP:=gi hpk;obtain ⟨op1,sa1,sc1,set1,ka1,kc1,kids1,mn1,mx1,mode1,n1,neg1⟩:=m;have g:=hx0.node;obtain ⟨e0,e1,e2,e3,e4,e5,e6,e7⟩:=id g;simp only [MRe.val] at HC;clear g hx0 hx hq hpk hu hq128;go_wp2_with fail
      refine Calls.mono HC.o ?_;rintro e w3 ⟨rfl,hk3⟩;have K3:=gi (HKP.o.trans hk3);clear hk3;go_wp2;go_roundw
      case rel=> exact ⟨k + 1,u ||| q,by omega,by go_num,rfl,HO.o,HP.o,K3.o⟩
      case measure=> simp [intOf];omega
     ·obtain rfl:k=kids.length:=by omega
      have h0:u=U:=by
       rw [List.drop_of_length_le (by rw [MRe.trees_length];exact Nat.le_refl _)] at hpk
       simpa [usesL] using hpk
      have H0:=gi h0;clear h0 hpk;go_wp2;go_ret;exact ⟨by rw [←H0.o];rfl,KY.o.trans HKP.o⟩
   ·have HU0:=gi (show 4 ||| usesL ((MRe.trees kids).drop 0)=U by rw [hU0];rfl);clear hU0;go_enter Tryz.func98,Tryz.ntmps98
    go_upto_region 1 with fail
    rw [←HYE.o,←HBE.o];go_wp2
    go_loopw [3,4] (fun v i wr=> ∃ k u:Nat,k≤kids.length∧i=H J k∧v=H J (u:Int)∧u < 128∧u ||| usesL ((MRe.trees kids).drop k)=U∧Keeps [] Y wr) (fun _ i _=> kids.length - (intOf i).toNat)
    case atStart=> exact ⟨0,4,Nat.zero_le _,rfl,rfl,by omega,HU0.o,Keeps.refl _ _⟩
    case round=>
     obtain ⟨k,u,hkk,rfl,rfl,hu,hpk,hkp⟩:=hrel;have HKP:=gi hkp;have y2:=hkp.c c2;clear hkp c0 c1 c2 c3 c4 c5 c6 c7
     by_cases hlt:k < kids.length
     ·obtain ⟨b,off,hkb,hb,hx⟩:=(HK.o.keep (KY.o.trans HKP.o)).nodes.kid (by omega)
      cases hkb
      have hx0:=hx k hlt;have HC:=gi (HI.o kids[k] (List.getElem_mem hlt) wr (KY.o.trans HKP.o));rw [trees_drop kids k hlt,usesL,←Nat.or_assoc] at hpk
      generalize kids[k]=m at *
      obtain ⟨q,hq⟩:∃ q,q=usesT m.tree:=⟨_,rfl⟩;have hq128:q < 128:=by rw [hq];exact usesT_lt _
      rw [←hq] at HC hpk;have hor:=bits_or hu hq128;have HO:=gi (or_lt hu hq128);have HP:=gi hpk;obtain ⟨op1,sa1,sc1,set1,ka1,kc1,kids1,mn1,mx1,mode1,n1,neg1⟩:=m;have g:=hx0.node;obtain ⟨e0,e1,e2,e3,e4,e5,e6,e7⟩:=id g;simp only [MRe.val] at HC;clear g hx0 hx hq hpk hu hq128;go_wp2_with fail
      refine Calls.mono HC.o ?_;rintro e w3 ⟨rfl,hk3⟩;have K3:=gi (HKP.o.trans hk3);clear hk3;go_wp2;go_roundw
      case rel=> exact ⟨k + 1,u ||| q,by omega,by go_num,rfl,HO.o,HP.o,K3.o⟩
      case measure=> simp [intOf];omega
     ·obtain rfl:k=kids.length:=by omega
      have h0:u=U:=by
       rw [List.drop_of_length_le (by rw [MRe.trees_length];exact Nat.le_refl _)] at hpk
       simpa [usesL] using hpk
      have H0:=gi h0;clear h0 hpk;go_wp2;go_ret;exact ⟨by rw [←H0.o];rfl,KY.o.trans HKP.o⟩
   ·have HU0:=gi (show 4 ||| usesL ((MRe.trees kids).drop 0)=U by rw [hU0];rfl);clear hU0;go_enter Tryz.func98,Tryz.ntmps98
    go_upto_region 1 with fail
    rw [←HYE.o,←HBE.o];go_wp2
    go_loopw [3,4] (fun v i wr=> ∃ k u:Nat,k≤kids.length∧i=H J k∧v=H J (u:Int)∧u < 128∧u ||| usesL ((MRe.trees kids).drop k)=U∧Keeps [] Y wr) (fun _ i _=> kids.length - (intOf i).toNat)
    case atStart=> exact ⟨0,4,Nat.zero_le _,rfl,rfl,by omega,HU0.o,Keeps.refl _ _⟩
    case round=>
     obtain ⟨k,u,hkk,rfl,rfl,hu,hpk,hkp⟩:=hrel;have HKP:=gi hkp;have y2:=hkp.c c2;clear hkp c0 c1 c2 c3 c4 c5 c6 c7
     by_cases hlt:k < kids.length
     ·obtain ⟨b,off,hkb,hb,hx⟩:=(HK.o.keep (KY.o.trans HKP.o)).nodes.kid (by omega)
      cases hkb
      have hx0:=hx k hlt;have HC:=gi (HI.o kids[k] (List.getElem_mem hlt) wr (KY.o.trans HKP.o));rw [trees_drop kids k hlt,usesL,←Nat.or_assoc] at hpk
      generalize kids[k]=m at *
      obtain ⟨q,hq⟩:∃ q,q=usesT m.tree:=⟨_,rfl⟩;have hq128:q < 128:=by rw [hq];exact usesT_lt _
      rw [←hq] at HC hpk;have hor:=bits_or hu hq128;have HO:=gi (or_lt hu hq128);have HP:=gi hpk;obtain ⟨op1,sa1,sc1,set1,ka1,kc1,kids1,mn1,mx1,mode1,n1,neg1⟩:=m;have g:=hx0.node;obtain ⟨e0,e1,e2,e3,e4,e5,e6,e7⟩:=id g;simp only [MRe.val] at HC;clear g hx0 hx hq hpk hu hq128;go_wp2_with fail
      refine Calls.mono HC.o ?_;rintro e w3 ⟨rfl,hk3⟩;have K3:=gi (HKP.o.trans hk3);clear hk3;go_wp2;go_roundw
      case rel=> exact ⟨k + 1,u ||| q,by omega,by go_num,rfl,HO.o,HP.o,K3.o⟩
      case measure=> simp [intOf];omega
     ·obtain rfl:k=kids.length:=by omega
      have h0:u=U:=by
       rw [List.drop_of_length_le (by rw [MRe.trees_length];exact Nat.le_refl _)] at hpk
       simpa [usesL] using hpk
      have H0:=gi h0;clear h0 hpk;go_wp2;go_ret;exact ⟨by rw [←H0.o];rfl,KY.o.trans HKP.o⟩
   ·have HU0:=gi (show 8 ||| usesL ((MRe.trees kids).drop 0)=U by rw [hU0];rfl);clear hU0;go_enter Tryz.func98,Tryz.ntmps98
    go_upto_region 1 with fail
    rw [←HYE.o,←HBE.o];go_wp2
    go_loopw [3,4] (fun v i wr=> ∃ k u:Nat,k≤kids.length∧i=H J k∧v=H J (u:Int)∧u < 128∧u ||| usesL ((MRe.trees kids).drop k)=U∧Keeps [] Y wr) (fun _ i _=> kids.length - (intOf i).toNat)
    case atStart=> exact ⟨0,8,Nat.zero_le _,rfl,rfl,by omega,HU0.o,Keeps.refl _ _⟩
    case round=>
     obtain ⟨k,u,hkk,rfl,rfl,hu,hpk,hkp⟩:=hrel;have HKP:=gi hkp;have y2:=hkp.c c2;clear hkp c0 c1 c2 c3 c4 c5 c6 c7
     by_cases hlt:k < kids.length
     ·obtain ⟨b,off,hkb,hb,hx⟩:=(HK.o.keep (KY.o.trans HKP.o)).nodes.kid (by omega)
      cases hkb
      have hx0:=hx k hlt;have HC:=gi (HI.o kids[k] (List.getElem_mem hlt) wr (KY.o.trans HKP.o));rw [trees_drop kids k hlt,usesL,←Nat.or_assoc] at hpk
      generalize kids[k]=m at *
      obtain ⟨q,hq⟩:∃ q,q=usesT m.tree:=⟨_,rfl⟩;have hq128:q < 128:=by rw [hq];exact usesT_lt _
      rw [←hq] at HC hpk;have hor:=bits_or hu hq128;have HO:=gi (or_lt hu hq128);have HP:=gi hpk;obtain ⟨op1,sa1,sc1,set1,ka1,kc1,kids1,mn1,mx1,mode1,n1,neg1⟩:=m;have g:=hx0.node;obtain ⟨e0,e1,e2,e3,e4,e5,e6,e7⟩:=id g;simp only [MRe.val] at HC;clear g hx0 hx hq hpk hu hq128;go_wp2_with fail
      refine Calls.mono HC.o ?_;rintro e w3 ⟨rfl,hk3⟩;have K3:=gi (HKP.o.trans hk3);clear hk3;go_wp2;go_roundw
      case rel=> exact ⟨k + 1,u ||| q,by omega,by go_num,rfl,HO.o,HP.o,K3.o⟩
      case measure=> simp [intOf];omega
     ·obtain rfl:k=kids.length:=by omega
      have h0:u=U:=by
       rw [List.drop_of_length_le (by rw [MRe.trees_length];exact Nat.le_refl _)] at hpk
       simpa [usesL] using hpk
      have H0:=gi h0;clear h0 hpk;go_wp2;go_ret;exact ⟨by rw [←H0.o];rfl,KY.o.trans HKP.o⟩
   ·have HU0:=gi (show 2 ||| usesL ((MRe.trees kids).drop 0)=U by rw [hU0];rfl);clear hU0;go_enter Tryz.func98,Tryz.ntmps98
    go_upto_region 1 with fail
    rw [←HYE.o,←HBE.o];go_wp2
    go_loopw [3,4] (fun v i wr=> ∃ k u:Nat,k≤kids.length∧i=H J k∧v=H J (u:Int)∧u < 128∧u ||| usesL ((MRe.trees kids).drop k)=U∧Keeps [] Y wr) (fun _ i _=> kids.length - (intOf i).toNat)
    case atStart=> exact ⟨0,2,Nat.zero_le _,rfl,rfl,by omega,HU0.o,Keeps.refl _ _⟩
    case round=>
     obtain ⟨k,u,hkk,rfl,rfl,hu,hpk,hkp⟩:=hrel;have HKP:=gi hkp;have y2:=hkp.c c2;clear hkp c0 c1 c2 c3 c4 c5 c6 c7
     by_cases hlt:k < kids.length
     ·obtain ⟨b,off,hkb,hb,hx⟩:=(HK.o.keep (KY.o.trans HKP.o)).nodes.kid (by omega)
      cases hkb
      have hx0:=hx k hlt;have HC:=gi (HI.o kids[k] (List.getElem_mem hlt) wr (KY.o.trans HKP.o));rw [trees_drop kids k hlt,usesL,←Nat.or_assoc] at hpk
      generalize kids[k]=m at *
      obtain ⟨q,hq⟩:∃ q,q=usesT m.tree:=⟨_,rfl⟩;have hq128:q < 128:=by rw [hq];exact usesT_lt _
      rw [←hq] at HC hpk;have hor:=bits_or hu hq128;have HO:=gi (or_lt hu hq128);have HP:=gi hpk;obtain ⟨op1,sa1,sc1,set1,ka1,kc1,kids1,mn1,mx1,mode1,n1,neg1⟩:=m;have g:=hx0.node;obtain ⟨e0,e1,e2,e3,e4,e5,e6,e7⟩:=id g;simp only [MRe.val] at HC;clear g hx0 hx hq hpk hu hq128;go_wp2_with fail
      refine Calls.mono HC.o ?_;rintro e w3 ⟨rfl,hk3⟩;have K3:=gi (HKP.o.trans hk3);clear hk3;go_wp2;go_roundw
      case rel=> exact ⟨k + 1,u ||| q,by omega,by go_num,rfl,HO.o,HP.o,K3.o⟩
      case measure=> simp [intOf];omega
     ·obtain rfl:k=kids.length:=by omega
      have h0:u=U:=by
       rw [List.drop_of_length_le (by rw [MRe.trees_length];exact Nat.le_refl _)] at hpk
       simpa [usesL] using hpk
      have H0:=gi h0;clear h0 hpk;go_wp2;go_ret;exact ⟨by rw [←H0.o];rfl,KY.o.trans HKP.o⟩
   ·have HU0:=gi (show 16 ||| usesL ((MRe.trees kids).drop 0)=U by rw [hU0];rfl);clear hU0;go_enter Tryz.func98,Tryz.ntmps98
    go_upto_region 1 with fail
    rw [←HYE.o,←HBE.o];go_wp2
    go_loopw [3,4] (fun v i wr=> ∃ k u:Nat,k≤kids.length∧i=H J k∧v=H J (u:Int)∧u < 128∧u ||| usesL ((MRe.trees kids).drop k)=U∧Keeps [] Y wr) (fun _ i _=> kids.length - (intOf i).toNat)
    case atStart=> exact ⟨0,16,Nat.zero_le _,rfl,rfl,by omega,HU0.o,Keeps.refl _ _⟩
    case round=>
     obtain ⟨k,u,hkk,rfl,rfl,hu,hpk,hkp⟩:=hrel;have HKP:=gi hkp;have y2:=hkp.c c2;clear hkp c0 c1 c2 c3 c4 c5 c6 c7
     by_cases hlt:k < kids.length
     ·obtain ⟨b,off,hkb,hb,hx⟩:=(HK.o.keep (KY.o.trans HKP.o)).nodes.kid (by omega)
      cases hkb
      have hx0:=hx k hlt;have HC:=gi (HI.o kids[k] (List.getElem_mem hlt) wr (KY.o.trans HKP.o));rw [trees_drop kids k hlt,usesL,←Nat.or_assoc] at hpk
      generalize kids[k]=m at *
      obtain ⟨q,hq⟩:∃ q,q=usesT m.tree:=⟨_,rfl⟩;have hq128:q < 128:=by rw [hq];exact usesT_lt _
      rw [←hq] at HC hpk;have hor:=bits_or hu hq128;have HO:=gi (or_lt hu hq128);have HP:=gi hpk;obtain ⟨op1,sa1,sc1,set1,ka1,kc1,kids1,mn1,mx1,mode1,n1,neg1⟩:=m;have g:=hx0.node;obtain ⟨e0,e1,e2,e3,e4,e5,e6,e7⟩:=id g;simp only [MRe.val] at HC;clear g hx0 hx hq hpk hu hq128;go_wp2_with fail
      refine Calls.mono HC.o ?_;rintro e w3 ⟨rfl,hk3⟩;have K3:=gi (HKP.o.trans hk3);clear hk3;go_wp2;go_roundw
      case rel=> exact ⟨k + 1,u ||| q,by omega,by go_num,rfl,HO.o,HP.o,K3.o⟩
      case measure=> simp [intOf];omega
     ·obtain rfl:k=kids.length:=by omega
      have h0:u=U:=by
       rw [List.drop_of_length_le (by rw [MRe.trees_length];exact Nat.le_refl _)] at hpk
       simpa [usesL] using hpk
      have H0:=gi h0;clear h0 hpk;go_wp2;go_ret;exact ⟨by rw [←H0.o];rfl,KY.o.trans HKP.o⟩
theorem rplain_any (m:MRe) (w:World) (k1:m.OK w) (f1:m.tree.WFq):
  Calls Tryz.prog 54 #[m.val] w fun e w'=> e=.returned (F (plainP m.tree))∧Keeps [] w w':=by
 have HU:=gi (fun (W:World) (h:Keeps [] w W)=> ruses_any m W (k1.keep h) f1);have hp:plainP m.tree=(usesT m.tree==0 || usesT m.tree==32):=rfl;obtain ⟨u,hu⟩:∃ u,u=usesT m.tree:=⟨_,rfl⟩;rw [hp];rw [←hu] at HU ⊢;obtain ⟨op,sa,sc,set,ka,kc,kids,mn,mx,mode,n,neg⟩:=m;simp only [MRe.val] at HU ⊢;obtain ⟨B,Y,c0,c1,c2,c3,c4,c5,c6,c7,HYE,HBE,KY⟩:=pre1 w op sa sc set ka kc kids mn mx mode n neg;clear k1 f1 hp hu
 by_cases h0:u=0
 ·subst h0;go_enter Tryz.func54,Tryz.ntmps54
  go_upto_region 1 with fail
  rw [←HYE.o,←HBE.o];go_wp2_with fail
  refine Calls.mono (HU.o _ KY.o) ?_;rintro e w2 ⟨rfl,hk⟩;have HK:=gi (KY.o.trans hk);clear hk;go_wp2;go_ret;exact ⟨rfl,HK.o⟩
 ·have h0i:¬ (u:Int)=0:=by omega
  have h0b:(u==0)=false:=by simpa using h0
  by_cases h32:u=32
  ·subst h32;go_enter Tryz.func54,Tryz.ntmps54
   go_upto_region 1 with fail
   rw [←HYE.o,←HBE.o];go_wp2_with fail
   refine Calls.mono (HU.o _ KY.o) ?_;rintro e w2 ⟨rfl,hk⟩;have HK:=gi (KY.o.trans hk);clear hk;go_wp2;go_ret;exact ⟨rfl,HK.o⟩
  ·have h2i:¬ (u:Int)=32:=by omega
   have h2b:(u==32)=false:=by simpa using h32
   have HR:=gi (show (u==0 || u==32)=false by rw [h0b,h2b];rfl);have i0:((u:Int)==0)=false:=by simpa using h0i
   have i2:((u:Int)==32)=false:=by simpa using h2i
   clear h0b h2b;go_enter Tryz.func54,Tryz.ntmps54
   go_upto_region 1 with fail
   rw [←HYE.o,←HBE.o];go_wp2_with fail
   refine Calls.mono (HU.o _ KY.o) ?_;rintro e w2 ⟨rfl,hk⟩;have HK:=gi (KY.o.trans hk);clear hk;go_wp2;go_ret;exact ⟨by rw [HR.o];rfl,HK.o⟩
end Go.Proofs.YtjnlkjlbejelgaaGreat
