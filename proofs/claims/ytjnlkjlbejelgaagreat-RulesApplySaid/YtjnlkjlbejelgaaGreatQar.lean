/- Part 18 of the proof. No condition: every lemma says its own. -/
import Derived.BigQuiet
import Derived.Lib.QuietBelow
import Derived.Test.YtjnlkjlbejelgaaGreatQaq
namespace Go.Proofs.YtjnlkjlbejelgaaGreat
open Go.RowKit Go.Sort Go.BigFrame
open Go.Value renaming int→H,slice→M,bool→F
open Go.IntKind renaming i64→J
open Go.RowKit
set_option maxRecDepth 100000
set_option maxHeartbeats 16000000
theorem lexL_drop (l m:List Int) (k:Nat) (h:k < l.length) (h':k < m.length):lexL (l.drop k) (m.drop k)=if l[k] < m[k] then -1 else if m[k] < l[k] then 1 else lexL (l.drop (k + 1)) (m.drop (k + 1)):=by
 rw [List.drop_eq_getElem_cons h,List.drop_eq_getElem_cons h'];rfl
theorem lexL_end (l m:List Int) (k:Nat) (h:¬ (k < l.length∧k < m.length)):lexL (l.drop k) (m.drop k)=0:=by
 by_cases h1:k < l.length
 ·rw [List.drop_of_length_le (l:=m) (by omega)]
  cases l.drop k <;> rfl
 ·rw [List.drop_of_length_le (l:=l) (by omega)];rfl
theorem rcompare_any (m1:MRe):∀ (m2:MRe) (w:World),m1.OK w→m2.OK w→m1.tree.bulk≤100000→m2.tree.bulk≤100000→
  Calls Tryz.prog 13 #[m1.val,m2.val] w fun e w'=> e=.returned (H J (cmpT m1.tree m2.tree))∧Keeps [] w w':=by
 induction m1 using MRe.induct with
 | h op1 sa1 sc1 set1 ka1 kc1 kids1 mn1 mx1 mode1 n1 neg1 ih=>
  intro m2 w k1 k2 hb1 hb2;obtain ⟨op2,sa2,sc2,set2,ka2,kc2,kids2,mn2,mx2,mode2,n2,neg2⟩:=m2;have hcmp:=cmpT_eq (MRe.tree (.node op1 sa1 sc1 set1 ka1 kc1 kids1 mn1 mx1 mode1 n1 neg1)) (MRe.tree (.node op2 sa2 sc2 set2 ka2 kc2 kids2 mn2 mx2 mode2 n2 neg2));rw [←lexL_nums] at hcmp;have hk1:(MRe.tree (.node op1 sa1 sc1 set1 ka1 kc1 kids1 mn1 mx1 mode1 n1 neg1)).kids=MRe.trees kids1:=rfl;have hk2:(MRe.tree (.node op2 sa2 sc2 set2 ka2 kc2 kids2 mn2 mx2 mode2 n2 neg2)).kids=MRe.trees kids2:=rfl;rw [hk1,hk2] at hcmp;have hlen:lexL (nums (MRe.tree (.node op1 sa1 sc1 set1 ka1 kc1 kids1 mn1 mx1 mode1 n1 neg1))) (nums (MRe.tree (.node op2 sa2 sc2 set2 ka2 kc2 kids2 mn2 mx2 mode2 n2 neg2)))=0→kids1.length=kids2.length:=fun h=> by
   rw [lexL_nums] at h;have h2:=lexP_zero h (((MRe.tree (.node op1 sa1 sc1 set1 ka1 kc1 kids1 mn1 mx1 mode1 n1 neg1)).kids.length:Int),((MRe.tree (.node op2 sa2 sc2 set2 ka2 kc2 kids2 mn2 mx2 mode2 n2 neg2)).kids.length:Int)) (by simp [nodeN,pairsN]);simp only at h2;rw [hk1,hk2,MRe.trees_length,MRe.trees_length] at h2;omega
  have O1:=gi (fun W (h:Keeps [] w W)=> rorder_any (.node op1 sa1 sc1 set1 ka1 kc1 kids1 mn1 mx1 mode1 n1 neg1) W (k1.keep h) hb1);have O2:=gi (fun W (h:Keeps [] w W)=> rorder_any (.node op2 sa2 sc2 set2 ka2 kc2 kids2 mn2 mx2 mode2 n2 neg2) W (k2.keep h) hb2);have hl1:=nums_length (MRe.tree (.node op1 sa1 sc1 set1 ka1 kc1 kids1 mn1 mx1 mode1 n1 neg1));have hl2:=nums_length (MRe.tree (.node op2 sa2 sc2 set2 ka2 kc2 kids2 mn2 mx2 mode2 n2 neg2));obtain ⟨N1,hN1⟩:∃ N,N=nums (MRe.tree (.node op1 sa1 sc1 set1 ka1 kc1 kids1 mn1 mx1 mode1 n1 neg1)):=⟨_,rfl⟩;obtain ⟨N2,hN2⟩:∃ N,N=nums (MRe.tree (.node op2 sa2 sc2 set2 ka2 kc2 kids2 mn2 mx2 mode2 n2 neg2)):=⟨_,rfl⟩;rw [←hN1] at hcmp hlen O1 hl1;rw [←hN2] at hcmp hlen O2 hl2;have hs1:(MRe.tree (.node op1 sa1 sc1 set1 ka1 kc1 kids1 mn1 mx1 mode1 n1 neg1)).set=set1:=rfl;have hs2:(MRe.tree (.node op2 sa2 sc2 set2 ka2 kc2 kids2 mn2 mx2 mode2 n2 neg2)).set=set2:=rfl;rw [hs1] at hl1;rw [hs2] at hl2;obtain ⟨hbl1,hbs1,hbm1⟩:=kids_bulk hb1;obtain ⟨hbl2,hbs2,hbm2⟩:=kids_bulk hb2;have hp1:N1.length≤200008:=by omega
  have hp2:N2.length≤200008:=by omega
  have hq1:0 < N1.length:=by omega
  have hq2:0 < N2.length:=by omega
  obtain ⟨q,hq⟩:∃ q,q=cmpT (MRe.tree (.node op1 sa1 sc1 set1 ka1 kc1 kids1 mn1 mx1 mode1 n1 neg1)) (MRe.tree (.node op2 sa2 sc2 set2 ka2 kc2 kids2 mn2 mx2 mode2 n2 neg2)):=⟨_,rfl⟩;rw [←hq] at hcmp ⊢;have HCMP:=gi hcmp;have HLEN:=gi hlen;have HI:=gi (fun k (hk:k∈kids1) k' (hk':k'∈kids2) W (h:Keeps [] w W)=> ih k hk k' W ((k1.kid hk).keep h) ((k2.kid hk').keep h) (hbm1 k hk) (hbm2 k' hk'));have HK1:=gi k1.kids;have HK2:=gi k2.kids;have hc1:=k1.nodes.cap;have hc2:=k2.nodes.cap;have he1:=k1.nodes.le;have he2:=k2.nodes.le;unfold maxLen at hc1 hc2;have hbx:=box2 w (.node op1 sa1 sc1 set1 ka1 kc1 kids1 mn1 mx1 mode1 n1 neg1) (.node op2 sa2 sc2 set2 ka2 kc2 kids2 mn2 mx2 mode2 n2 neg2) 26;have hkX:=Keeps.a2 w (.cells #[H J op1,M sa1 set1.length sc1,M ka1 kids1.length kc1,H J mn1,H J mx1,H J mode1,H J n1,F neg1] 26) (.cells #[H J op2,M sa2 set2.length sc2,M ka2 kids2.length kc2,H J mn2,H J mx2,H J mode2,H J n2,F neg2] 26);obtain ⟨B,hBe⟩:∃ B,B=w.heap.size:=⟨_,rfl⟩;simp only [MRe.row] at hbx;simp only [MRe.val] at O1 O2 ⊢;have HBX:=gi hbx;have HKX:=gi hkX;clear hcmp hlen hN1 hN2 hs1 hs2 hbm1 hbm2 hq k1 k2 hb1 hb2 ih hk1 hk2 hbx hkX hl1 hl2 hbs1 hbs2;go_enter Tryz.func13,Tryz.ntmps13
  go_wp2_with fail
  rw [←hBe] at HBX ⊢;refine Calls.mono (O1.o _ HKX.o) ?_;rintro e w2 ⟨a1,c1,rfl,hs1,hk2⟩;have K2:=gi (HKX.o.trans hk2);have KX2:=gi hk2;have S1:=gi hs1;obtain ⟨y0,y1,y2,y3,y4,y5,y6,y7⟩:=(HBX.o.2.keep hk2).cells0;simp only [sv];clear hk2 hs1 hBe;go_wp2_with fail
  refine Calls.mono (O2.o _ K2.o) ?_;rintro e w3 ⟨a2,c2,rfl,hs2,hk3⟩;have K3:=gi (K2.o.trans hk3);have KX3:=gi (KX2.o.trans hk3);have S1':=gi (S1.o.keep hk3 (by simp));have S2:=gi hs2
  cases a1 with
  | none=> exfalso;have h1:=S1.o.2;have h2:N1.length=0:=h1.1;omega
  | some g1=>
  cases a2 with
  | none=> exfalso;have h1:=S2.o.2;have h2:N2.length=0:=h1.1;omega
  | some g2=>
  simp only [sv,Option.map_some];clear hk3 hs2 y0 y1 y2 y3 y4 y5 y6 y7 S1;go_wp2
  go_loopw [7] (fun i wr=> ∃ k:Nat,k≤N1.length∧k≤N2.length∧i=H J k∧lexL (N1.drop k) (N2.drop k)=lexL N1 N2∧Keeps [] w3 wr) (fun i _=> N1.length - (intOf i).toNat)
  case atStart=> exact ⟨0,Nat.zero_le _,Nat.zero_le _,rfl,rfl,Keeps.refl _ _⟩
  case round=>
   obtain ⟨k,hk,hk',rfl,hl,hkp⟩:=hrel;have HL:=gi hl;have HKP:=gi hkp
   by_cases hlt:k < N1.length∧k < N2.length
   ·obtain ⟨hlt1,hlt2⟩:=hlt
    ·have c1:=hkp.cell (S1'.o.cell k (by simpa using hlt1)) (by simp);have d1:=hkp.cell (S2.o.cell k (by simpa using hlt2)) (by simp);rw [List.getElem_map] at c1 d1;have hd:=lexL_drop N1 N2 k hlt1 hlt2;rw [hl] at hd
     generalize N1[k]=x at *
     generalize N2[k]=y at *
     have hi0:(0:Int)≤(k:Int):=by omega
     have hi1:(k:Int) < (N1.length:Int):=by omega
     have hi2:(k:Int) < (N2.length:Int):=by omega
     by_cases h1:x < y
     ·rw [if_pos h1] at hd;have HD:=gi hd;have hcm:=HCMP.o;rw [hd,if_pos (by decide)] at hcm;have HCM:=gi hcm;clear hd hl hkp hcm;go_wp2
      go_quiet (fail)
      go_wp2;go_ret;exact ⟨by rw [HCM.o];rfl,K3.o.trans (HKP.o.drewN _)⟩
     ·by_cases h2:y < x
      ·rw [if_neg h1,if_pos h2] at hd;have hcm:=HCMP.o;rw [hd,if_pos (by decide)] at hcm;have HCM:=gi hcm;clear hd hl hkp hcm;go_wp2
       go_quiet (fail)
       go_wp2
       go_quiet (fail)
       go_wp2;go_ret;exact ⟨by rw [HCM.o];rfl,K3.o.trans (by first | exact (HKP.o.drewN _).drewN _ | exact HKP.o.drewN _)⟩
      ·rw [if_neg h1,if_neg h2] at hd;have HD:=gi hd;clear hd hl hkp;go_wp2
       go_quiet (fail)
       go_wp2
       go_quiet (fail)
       go_wp2;go_roundw
       case rel=> exact ⟨k + 1,by omega,by omega,by go_num,HD.o.symm,HKP.o.drewN _⟩
       case measure=> simp [intOf];omega
   ·obtain ⟨wo,rfl⟩:∃ wo:World,wo=wr:=⟨_,rfl⟩;have hz:lexL N1 N2=0:=by rw [←hl];exact lexL_end N1 N2 k hlt
    have hl12:=HLEN.o hz;have hcm:=HCMP.o;rw [hz,if_neg (by simp)] at hcm;have HCM:=gi hcm;have HL12:=gi hl12;have x2:=(KX3.o.trans hkp).cell (HBX.o.1.cells0.2.2.1) (by simp);have HKZ:=gi (K3.o.trans hkp);have y2:=(KX3.o.trans hkp).cell (HBX.o.2.cells0.2.2.1) (by simp);have hcase:(k < N1.length∧¬ k < N2.length)∨¬ k < N1.length:=by omega
    clear hl hkp hcm hl12 hz HCMP HLEN hlt O1 O2
    rcases hcase with ⟨hlt1,hlt2⟩ | hlt1
    all_goals
     go_wp2
     go_loopw [8] (fun i wq=> ∃ j:Nat,j≤kids1.length∧i=H J j∧cmpTs ((MRe.trees kids1).drop j) ((MRe.trees kids2).drop j)=cmpTs (MRe.trees kids1) (MRe.trees kids2)∧Keeps [] wo wq) (fun i _=> kids1.length - (intOf i).toNat)
     case atStart=> exact ⟨0,Nat.zero_le _,rfl,rfl,Keeps.refl _ _⟩
     case round=>
      obtain ⟨j,hj,rfl,hl,hkp⟩:=hrel;have HLL:=gi hl;have HK:=gi hkp
      by_cases hltj:j < kids1.length
      ·have hltj2:j < kids2.length:=by rw [←HL12.o];exact hltj
       have hkk:=HKZ.o.trans hkp;obtain ⟨b,off,rfl,hb,hx⟩:=(HK1.o.keep hkk).nodes.kid (by omega);obtain ⟨b',off',rfl,hb',hx'⟩:=(HK2.o.keep hkk).nodes.kid (by omega);have u2:=hkp.c x2;have v2:=hkp.c y2;have HCALL:=gi (fun W (h:Keeps [] wo W)=> HI.o kids1[j] (List.getElem_mem hltj) kids2[j] (List.getElem_mem hltj2) W (HKZ.o.trans h));have hd:cmpTs (MRe.trees kids1) (MRe.trees kids2)=if cmpT kids1[j].tree kids2[j].tree≠0 then cmpT kids1[j].tree kids2[j].tree else cmpTs ((MRe.trees kids1).drop (j + 1)) ((MRe.trees kids2).drop (j + 1)):=by
        rw [←hl,trees_drop kids1 j hltj,trees_drop kids2 j hltj2,cmpTs]
       obtain ⟨q',hq'⟩:∃ q',q'=cmpT kids1[j].tree kids2[j].tree:=⟨_,rfl⟩;rw [←hq'] at hd HCALL;have HD:=gi hd;have hA:=hx j hltj;have hB':=hx' j hltj2
       generalize kids1[j]=ka at *
       generalize kids2[j]=kb at *
       obtain ⟨op3,sa3,sc3,set3,ka3,kc3,kids3,mn3,mx3,mode3,n3,neg3⟩:=ka;obtain ⟨op4,sa4,sc4,set4,ka4,kc4,kids4,mn4,mx4,mode4,n4,neg4⟩:=kb;obtain ⟨c0,c1,c2,c3,c4,c5,c6,c7⟩:=hA.cellsO;obtain ⟨d0,d1,d2,d3,d4,d5,d6,d7⟩:=hB'.cellsO;simp only [MRe.val] at HCALL;have cC:∀ d os,Calls Tryz.prog 13 #[.agg #[H J op3,M sa3 set3.length sc3,M ka3 kids3.length kc3,H J mn3,H J mx3,H J mode3,H J n3,F neg3],.agg #[H J op4,M sa4 set4.length sc4,M ka4 kids4.length kc4,H J mn4,H J mx4,H J mode4,H J n4,F neg4]] (grow (redrawn wr d) os) fun e w''=> e=.returned (H J q')∧∃ p:Regrown,w''=grow (redrawn wr p.d) p.os:=fun d os=> Calls.regrown_of ((HCALL.o _ (hkp.trans (Keeps.of_below (below_regrown wr d os)))).mono fun e w' ⟨he,hk⟩=> ⟨he,hk.below (Nat.le_refl _)⟩);have CC:=gi cC;have hi0:(0:Int)≤(j:Int):=by omega
       have hi1:(j:Int) < (kids1.length:Int):=by omega
       have hi2:(j:Int) < (kids2.length:Int):=by omega
       clear cC hA hB' hd hq' hkk hx hx' hl HI hkp;go_wp2;have p2:=cell_regrown u2;have r2:=cell_regrown v2;have s0:=cell_regrown c0;have s1:=cell_regrown c1;have s2:=cell_regrown c2;have s3:=cell_regrown c3;have s4:=cell_regrown c4;have s5:=cell_regrown c5;have s6:=cell_regrown c6;have s7:=cell_regrown c7;have t0:=cell_regrown d0;have t1:=cell_regrown d1;have t2:=cell_regrown d2;have t3:=cell_regrown d3;have t4:=cell_regrown d4;have t5:=cell_regrown d5;have t6:=cell_regrown d6;have t7:=cell_regrown d7;clear c0 c1 c2 c3 c4 c5 c6 c7 d0 d1 d2 d3 d4 d5 d6 d7 u2 v2;refine wp_region_quiet_below (by kernel_rfl) (by kernel_rfl) ?_
       repeat (go_big_quiet_step (exact CC.o _ _))
       refine wpQuiet_nil ?_;intro _ hw';obtain ⟨pq,hw''⟩:=hw';subst hw'';have hk:=Keeps.of_below (below_regrown wr pq.d pq.os);have HK4:=gi (HK.o.trans hk);clear hk p2 r2 s0 s1 s2 s3 s4 s5 s6 s7 t0 t1 t2 t3 t4 t5 t6 t7
       generalize grow (redrawn wr pq.d) pq.os=Y at *
       by_cases hqz:q'=0
       ·have hdd:=HD.o;rw [if_neg (by simp [hqz])] at hdd;have HDE:=gi hdd;clear hdd HD;subst hqz;go_wp2;go_roundw
        case rel=> exact ⟨j + 1,by omega,by go_num,HDE.o.symm,HK4.o⟩
        case measure=> simp [intOf];omega
       ·have hdd:=HD.o;rw [if_pos hqz] at hdd;have HDD:=gi hdd;have hqb:(q' !=0)=true:=by simp [hqz]
        clear hdd HD;go_wp2;go_ret;exact ⟨by rw [HCM.o,HDD.o];rfl,HKZ.o.trans HK4.o⟩
      ·obtain rfl:j=kids1.length:=by omega
       have h0:cmpTs (MRe.trees kids1) (MRe.trees kids2)=0:=by rw [←hl,List.drop_of_length_le (by rw [MRe.trees_length];omega)];simp [cmpTs]
       have HH0:=gi h0;have u2:=hkp.c x2;clear hl hkp h0;go_wp2;go_ret;exact ⟨by rw [HCM.o,HH0.o];rfl,HKZ.o.trans HK.o⟩
theorem requal_any (m1 m2:MRe) (w:World) (k1:m1.OK w) (k2:m2.OK w) (b1:m1.tree.bulk≤100000) (b2:m2.tree.bulk≤100000):
  Calls Tryz.prog 95 #[m1.val,m2.val] w fun e w'=> e=.returned (F (eqB m1.tree m2.tree))∧Keeps [] w w':=by
 have HW:=gi (fun W (h:Keeps [] w W)=> rcompare_any m1 m2 W (k1.keep h) (k2.keep h) b1 b2);obtain ⟨T1,h1⟩:∃ T,T=m1.tree:=⟨_,rfl⟩;obtain ⟨T2,h2⟩:∃ T,T=m2.tree:=⟨_,rfl⟩;rw [←h1,←h2] at HW ⊢;obtain ⟨op1,sa1,sc1,set1,ka1,kc1,kids1,mn1,mx1,mode1,n1,neg1⟩:=m1;obtain ⟨op2,sa2,sc2,set2,ka2,kc2,kids2,mn2,mx2,mode2,n2,neg2⟩:=m2;simp only [MRe.val] at HW ⊢;clear k1 k2 h1 h2 b1 b2;go_enter Tryz.func95,Tryz.ntmps95
 go_wp2_with fail
 refine Calls.mono (HW.o _ (Keeps.a2 w _ _)) ?_;rintro e w2 ⟨rfl,hk⟩;have HK:=gi ((Keeps.a2 w _ _).trans hk);clear hk;go_wp2;go_ret;refine ⟨?_,HK.o⟩;unfold eqB
 by_cases h:cmpT T1 T2=0
 ·simp [h]
 ·simp [h]
theorem rkid_any (m:MRe) (o:Int) (w:World) (k1:m.OK w):
  Calls Tryz.prog 47 #[m.val,H J o] w fun e w'=> e=.returned (H J (idxI (fun k=> k.op==o) m.tree.kids))∧Keeps [] w w':=by
 obtain ⟨p,hp⟩:∃ p:Tree→Bool,p=fun k=> k.op==o:=⟨_,rfl⟩;rw [←hp];obtain ⟨op,sa,sc,set,ka,kc,kids,mn,mx,mode,n,neg⟩:=m;have hk0:(MRe.tree (.node op sa sc set ka kc kids mn mx mode n neg)).kids=MRe.trees kids:=rfl;rw [hk0];have hcap:=k1.nodes.cap;have hle:=k1.nodes.le;unfold maxLen at hcap;have HK:=gi k1.kids;simp only [MRe.val];obtain ⟨B,Y,c0,c1,c2,c3,c4,c5,c6,c7,HYE,HBE,KY⟩:=pre1 w op sa sc set ka kc kids mn mx mode n neg;have HPP:=gi hp;clear hk0 k1 hp;go_enter Tryz.func47,Tryz.ntmps47
 go_upto_region 1 with fail
 rw [←HYE.o,←HBE.o];go_wp2
 go_loopw [5] (fun i wr=> ∃ k:Nat,k≤kids.length∧i=H J k∧(∀ x∈(MRe.trees kids).take k,p x=false)∧Y=wr) (fun i _=> kids.length - (intOf i).toNat)
 case atStart=> exact ⟨0,Nat.zero_le _,rfl,by simp,rfl⟩
 case round=>
  obtain ⟨k,hkk,rfl,hpk,rfl⟩:=hrel;have HP:=gi hpk
  by_cases hlt:k < kids.length
  ·obtain ⟨b,off,rfl,hb,hx⟩:=(HK.o.keep KY.o).nodes.kid (by omega);have hx0:=hx k hlt;have hlt':k < (MRe.trees kids).length:=by rw [MRe.trees_length];exact hlt
   have hsome:=fun h=> idxI_some (p:=p) hlt' HP.o h;have hall:=fun h=> take_all (p:=p) hlt' HP.o h;rw [trees_getElem kids k hlt] at hsome hall;have HSO:=gi hsome;have HAL:=gi hall
   generalize kids[k]=m at *
   have hq:p m.tree=(m.tree.op==o):=by rw [HPP.o]
   obtain ⟨q,hqq⟩:∃ q,q=p m.tree:=⟨_,rfl⟩;rw [←hqq] at HSO HAL hq;obtain ⟨op1,sa1,sc1,set1,ka1,kc1,kids1,mn1,mx1,mode1,n1,neg1⟩:=m;replace hq:q=(op1==o):=hq;have g:=hx0.node;have e0:=g.c0;clear g hx0 hx hpk hqq hsome hall
   by_cases a1:op1=o
   ·subst a1;obtain rfl:q=true:=by rw [hq];simp
    have hS:=HSO.o rfl;have HS:=gi hS;have hlI:(k:Int) < (kids.length:Int):=by omega
    clear hS hq HSO HAL;go_wp2;go_ret;exact ⟨by rw [HS.o];rfl,KY.o⟩
   ·have hb1:(op1==o)=false:=by simpa using a1
    obtain rfl:q=false:=by rw [hq,hb1]
    have HA:=gi (HAL.o rfl);clear hq;go_wp2;go_roundw
    case rel=> exact ⟨k + 1,by omega,by go_num,HA.o,trivial⟩
    case measure=> simp [intOf];omega
  ·obtain rfl:k=kids.length:=by omega
   have h0:idxI p (MRe.trees kids)= -1:=idxI_none (by rw [←MRe.trees_length,List.take_length] at hpk;exact hpk);have H0:=gi h0;clear hpk h0;go_wp2;go_ret;exact ⟨by rw [H0.o];rfl,KY.o⟩
theorem twinO_end {l:List Tree} {k:Nat} {o:Option Nat} (hk:l.length≤k) (h:(twinO (l.take k) (l.drop k)).map (· + k)=o):o=none:=by
 rw [List.drop_of_length_le hk] at h;exact h.symm
theorem ralike_any (m:MRe) (w:World) (k1:m.OK w) (hb:m.tree.bulk≤100000):
  Calls Tryz.prog 49 #[m.val] w fun e w'=> e=.returned (H J (idxO (twinO [] m.tree.kids)))∧Keeps [] w w':=by
 obtain ⟨op,sa,sc,set,ka,kc,kids,mn,mx,mode,n,neg⟩:=m;have hk0:(MRe.tree (.node op sa sc set ka kc kids mn mx mode n neg)).kids=MRe.trees kids:=rfl;rw [hk0];have hcap:=k1.nodes.cap;have hle:=k1.nodes.le;unfold maxLen at hcap;have HK:=gi k1.kids;have HBB:=gi (kids_bulk hb).2.2;simp only [MRe.val];obtain ⟨B,Y,c0,c1,c2,c3,c4,c5,c6,c7,HYE,HBE,KY⟩:=pre1 w op sa sc set ka kc kids mn mx mode n neg;clear hk0 k1 hb;go_enter Tryz.func49,Tryz.ntmps49
 go_upto_region 1 with fail
 rw [←HYE.o,←HBE.o];go_wp2
 go_loopw [3] (fun i wr=> ∃ k:Nat,k≤kids.length∧i=H J k∧(twinO ((MRe.trees kids).take k) ((MRe.trees kids).drop k)).map (· + k)=twinO [] (MRe.trees kids)∧Keeps [] Y wr) (fun i _=> kids.length - (intOf i).toNat)
 case atStart=> exact ⟨0,Nat.zero_le _,rfl,by rw [List.drop_zero,List.take_zero];cases twinO [] (MRe.trees kids) <;> rfl,Keeps.refl _ _⟩
 case round=>
  obtain ⟨k,hkk,rfl,hl,hkp⟩:=hrel;have HL:=gi hl;have HKP:=gi hkp;have y2:=hkp.c c2;clear hl hkp
  by_cases hlt:k < kids.length
  ·have HD:=gi (trees_drop kids k hlt);obtain ⟨wo,hwo⟩:∃ wo,wo=wr:=⟨_,rfl⟩;have hkI:(k:Int) < (kids.length:Int):=by omega
   go_wp2
   go_loopw [4] (fun i wq=> ∃ j:Nat,j≤k∧i=H J j∧(((MRe.trees kids).take j).any fun o=> eqB o (kids[k]'hlt).tree)=false∧Keeps [] Y wq) (fun i _=> k - (intOf i).toNat)
   case atStart=> exact ⟨0,Nat.zero_le _,rfl,by rw [List.take_zero];rfl,HKP.o⟩
   case round=>
    obtain ⟨j,hjk,rfl,hany,hkq⟩:=hrel;have HA:=gi hany;have HKQ:=gi hkq;have z2:=hkq.c c2;clear hany hkq y2
    by_cases hjlt:j < k
    ·obtain ⟨b,off,rfl,hb,hx⟩:=(HK.o.keep (KY.o.trans HKQ.o)).nodes.kid (by omega);have hxj:=hx j (by omega);have hxk:=hx k hlt;have hokj:=HK.o.all kids[j] (List.getElem_mem (by omega));have hokk:=HK.o.all kids[k] (List.getElem_mem hlt);have HE:=gi (fun (W:World) (h:Keeps [] w W)=> requal_any (kids[j]'(by omega)) (kids[k]'hlt) W (hokj.keep h) (hokk.keep h) (HBB.o _ (List.getElem_mem (by omega))) (HBB.o _ (List.getElem_mem hlt)));have htj:(MRe.trees kids).take (j + 1)=(MRe.trees kids).take j ++ [(kids[j]'(by omega)).tree]:=by
      rw [List.take_succ_eq_append_getElem (by rw [MRe.trees_length];omega),trees_getElem]
     have hnext:eqB (kids[j]'(by omega)).tree (kids[k]'hlt).tree=false→(((MRe.trees kids).take (j + 1)).any fun o=> eqB o (kids[k]'hlt).tree)=false:=fun h=> by
      rw [htj,List.any_append,HA.o,List.any_cons,List.any_nil,h];rfl
     have hfound:eqB (kids[j]'(by omega)).tree (kids[k]'hlt).tree=true→(((MRe.trees kids).take k).any fun o=> eqB o (kids[k]'hlt).tree)=true:=fun h=> by
      refine List.any_eq_true.2 ⟨(kids[j]'(by omega)).tree,?_,h⟩;have h1:=trees_getElem kids j (by omega);rw [←h1];exact List.mem_take_iff_getElem.2 ⟨j,by rw [MRe.trees_length];omega,rfl⟩
     obtain ⟨q,hq⟩:∃ q,q=eqB (kids[j]'(by omega)).tree (kids[k]'hlt).tree:=⟨_,rfl⟩;rw [←hq] at hnext hfound;simp only [←hq] at HE;have HN:=gi hnext;have HF:=gi hfound;obtain ⟨mj,hmj⟩:∃ mj,mj=(kids[j]'(by omega)):=⟨_,rfl⟩;obtain ⟨mk,hmk⟩:∃ mk,mk=(kids[k]'hlt):=⟨_,rfl⟩;rw [←hmj] at hxj;rw [←hmk] at hxk;rw [←hmj,←hmk] at HE;clear htj hnext hfound hq hmj hmk hokj hokk hx;obtain ⟨op1,sa1,sc1,set1,ka1,kc1,kids1,mn1,mx1,mode1,n1,neg1⟩:=mj;obtain ⟨op2,sa2,sc2,set2,ka2,kc2,kids2,mn2,mx2,mode2,n2,neg2⟩:=mk;have g:=hxj.node;obtain ⟨e0,e1,e2,e3,e4,e5,e6,e7⟩:=id g;clear g;have g:=hxk.node;obtain ⟨f0,f1,f2,f3,f4,f5,f6,f7⟩:=id g;simp only [MRe.val] at HE;have hjI:(j:Int) < (kids.length:Int):=by omega
     have hjJ:(j:Int) < (k:Int):=by omega
     have hj0:(0:Int)≤(j:Int):=by omega
     have hk0:(0:Int)≤(k:Int):=by omega
     have hjn:j < kids.length:=by omega
     clear g hxj hxk;go_wp2;refine rg (S:=fun w'=> w'.cell? ⟨B,2,none⟩=some (M (some ⟨b,off,none⟩) kids.length kc)∧(w'.cell? ⟨b,off + j * 8,none⟩=some (H J op1)∧w'.cell? ⟨b,off + j * 8 + 1,none⟩=some (M sa1 set1.length sc1)∧w'.cell? ⟨b,off + j * 8 + 2,none⟩=some (M ka1 kids1.length kc1)∧w'.cell? ⟨b,off + j * 8 + 3,none⟩=some (H J mn1)∧w'.cell? ⟨b,off + j * 8 + 4,none⟩=some (H J mx1)∧w'.cell? ⟨b,off + j * 8 + 5,none⟩=some (H J mode1)∧w'.cell? ⟨b,off + j * 8 + 6,none⟩=some (H J n1)∧w'.cell? ⟨b,off + j * 8 + 7,none⟩=some (F neg1))∧(w'.cell? ⟨b,off + k * 8,none⟩=some (H J op2)∧w'.cell? ⟨b,off + k * 8 + 1,none⟩=some (M sa2 set2.length sc2)∧w'.cell? ⟨b,off + k * 8 + 2,none⟩=some (M ka2 kids2.length kc2)∧w'.cell? ⟨b,off + k * 8 + 3,none⟩=some (H J mn2)∧w'.cell? ⟨b,off + k * 8 + 4,none⟩=some (H J mx2)∧w'.cell? ⟨b,off + k * 8 + 5,none⟩=some (H J mode2)∧w'.cell? ⟨b,off + k * 8 + 6,none⟩=some (H J n2)∧w'.cell? ⟨b,off + k * 8 + 7,none⟩=some (F neg2))) (fun _ k=> ⟨k.c z2,⟨k.c e0,k.c e1,k.c e2,k.c e3,k.c e4,k.c e5,k.c e6,k.c e7⟩,⟨k.c f0,k.c f1,k.c f2,k.c f3,k.c f4,k.c f5,k.c f6,k.c f7⟩⟩) fun kz hHeld=> ?_;refine tk 0 ?_;refine tk 1 ?_;refine tk 2 ?_;refine tk 3 ?_;refine tk 4 ?_;refine tk 5 ?_;refine tk 6 ?_;refine tk 7 ?_;refine tk 8 ?_;refine tk 9 ?_;refine j6 10 fun K hK=> ?_;go_simp
     go_at_call 95
     refine Calls.mono (HE.o _ ((KY.o.trans HKQ.o).drew)) ?_;rintro e w3 ⟨rfl,hk3⟩;have E3:=gi (((Keeps.refl [] _).drew).trans hk3);have K3:=gi (HKQ.o.drew.trans hk3);clear hk3;refine hK.out _ _ (kz.o _ E3.o) fun hHeld=> ?_;clear hK K;try go_frame
     refine wd ?_;clear e0 e1 e2 e3 e4 e5 e6 e7 f0 f1 f2 f3 f4 f5 f6 f7 z2 hHeld
     cases q with
     | true=>
      have hO:=twinO_at HD.o (HF.o rfl) HL.o;have HO:=gi hO;clear hO;go_wp2;go_ret;exact ⟨by rw [HO.o];rfl,KY.o.trans K3.o⟩
     | false=>
      have H2:=gi (HN.o rfl);go_wp2;go_roundw
      case rel=> exact ⟨j + 1,by omega,by go_num,H2.o,K3.o⟩
      case measure=> simp [intOf];omega
    ·obtain rfl:j=k:=by omega
     have hst:=twinO_step HD.o HA.o HL.o;have HST:=gi hst;clear hst z2;go_wp2;go_roundw
     case rel=> exact ⟨j + 1,by omega,by go_num,HST.o,HKQ.o⟩
     case measure=> simp [intOf];omega
  ·obtain rfl:k=kids.length:=by omega
   have h0:=twinO_end (by rw [MRe.trees_length];exact Nat.le_refl _) HL.o;have H0:=gi h0;clear h0;go_wp2;go_ret;exact ⟨by rw [H0.o];rfl,KY.o.trans HKP.o⟩
def TreeFrom (w:World) (src:List Nat) (t:Tree) (e:Ending) (w':World):Prop:=∃ m:MRe,e=.returned m.val∧m.tree=t∧m.OK w'∧Keeps [] w w'∧From w.heap.size src m.blocks
theorem TreeFrom.of {w:World} {src:List Nat} {t:Tree} {e:Ending} {w':World} (r:MRe) (h:r.tree=t) (he:e=.returned r.val) (hr:r.OK w') (hk:Keeps [] w w') (hb:From w.heap.size src r.blocks):TreeFrom w src t e w':=⟨r,he,h,hr,hk,hb⟩
def setKids:Tree→List Tree→Tree
 | .node op set _ mn mx mode n neg,ks=> .node op set ks mn mx mode n neg
def oneOr (t:Tree):List Tree→Tree
 | [x]=> x
 | ks=> setKids t ks
def repT (t:Tree) (i j:Nat) (l:List Tree):Tree:=oneOr t (t.kids.take i ++ (l ++ t.kids.drop j))
theorem oneOr_many {t:Tree} {ks:List Tree} (h:ks.length≠1):oneOr t ks=setKids t ks:=by
 match ks,h with
 | [],_=> rfl
 | [x],h=> simp at h
 | x::y::r,_=> rfl
theorem replaced_any (m:MRe) (i j:Nat) (la:Option Addr) (lc:Nat) (l:List MRe) (w:World) (k1:m.OK w) (hl:KidsIn w la lc l) (hij:i≤j) (hj:j≤m.kids.length) (h0:0 < m.kids.length) (hb:m.kids.length + l.length≤1000000):
  Calls Tryz.prog 48 #[m.val,H J i,H J j,M la l.length lc] w (TreeFrom w (m.blocks ++ MRe.blocksL l) (repT m.tree i j (MRe.trees l))):=by
 obtain ⟨i0,hi,hz0,hz1,hz2⟩:=info_parts infoRe;have Hi:=gi hi;have Hz0:=gi hz0;have Hz1:=gi hz1;have Hz2:=gi hz2;clear hi hz0 hz1 hz2;obtain ⟨R,hR0⟩:∃ R,R=repT m.tree i j (MRe.trees l):=⟨_,rfl⟩;rw [←hR0];obtain ⟨op,sa,sc,set,ka,kc,kids,mn,mx,mode,n,neg⟩:=m;simp only [MRe.kids] at hj h0 hb;obtain ⟨B,X,HBE,HXE,HC,HZ,hsz,HKX⟩:=pre0 w op sa sc set ka kc kids mn mx mode n neg;have HXS:=gi hsz;obtain ⟨b,off,rfl,hbb,_⟩:=k1.nodes.kid h0;have hcap:=k1.nodes.cap;have hle:=k1.nodes.le;unfold maxLen at hcap;have hd:=k1.nodes.drop j hj;have hs1:∀ W:World,(Instr.sliceAt 24 (M (some ⟨b,off,none⟩) kids.length kc) none (some (H J i)) none).run Tryz.prog W=.ok (M (some ⟨b,off,none⟩) i kc) W:=by
  intro W;have q2:(i:Int)≤kc:=by omega
  simp [go_sem,q2]
 have hs2:∀ W:World,(Instr.sliceAt 24 (M (some ⟨b,off,none⟩) kids.length kc) (some (H J j)) none none).run Tryz.prog W=.ok (M (if kc=j then some ⟨b,off,none⟩ else some ⟨b,off + j * 8,none⟩) (kids.length - j) (kc - j)) W:=by
  intro W;have q1:(j:Int)≤kids.length:=by omega
  simp [go_sem,q1]
 obtain ⟨ja,hja⟩:∃ ja,ja=(if kc=j then some (⟨b,off,none⟩:Addr) else some ⟨b,off + j * 8,none⟩):=⟨_,rfl⟩;rw [←hja] at hd hs2;have htl:(kids.take i).length=i:=by rw [List.length_take];omega
 have hdl:(kids.drop j).length=kids.length - j:=List.length_drop;have htk:=k1.nodes.take i;have hsrc1:0 < i→∃ ad,(some ⟨b,off,none⟩:Option Addr)=some ad∧∀ j u,(flatK (kids.take i))[j]? =some u→X.cell? (ad.add j)=some u:=fun h=> (htk.keep HKX.o).src (by omega);have HS1:=gi hsrc1;have HS2:=gi (fun (W:World) (h:Keeps [] w W)=> (hl.nodes.keep h).src);have hsrc3:∀ W,Keeps [] w W→0 < kids.length - j→∃ ad,ja=some ad∧∀ j' u,(flatK (kids.drop j))[j']? =some u→W.cell? (ad.add j')=some u:=fun W h h'=> (hd.keep h).src (by omega);have HS3:=gi hsrc3;have HF1:=gi (show (flatK (kids.take i)).length=i * 8 by rw [flatK_length,htl]);have HF3:=gi (show (flatK (kids.drop j)).length=(kids.length - j) * 8 by rw [flatK_length,hdl]);obtain ⟨ks,hks⟩:∃ ks,ks=kids.take i ++ (l ++ kids.drop j):=⟨_,rfl⟩;have hkt:MRe.trees ks=(MRe.trees kids).take i ++ (MRe.trees l ++ (MRe.trees kids).drop j):=by rw [hks];simp [MRe.trees_eq]
 have hkl:ks.length=i + l.length + (kids.length - j):=by rw [hks];simp only [List.length_append,htl,hdl];omega
 have hR1:R=oneOr (.node op set (MRe.trees kids) mn mx mode n neg) (MRe.trees ks):=by rw [hR0,hkt];rfl
 have hkin:∀ x∈ks,x∈kids∨x∈l:=fun x hx=> by
  rw [hks] at hx
  rcases List.mem_append.1 hx with hx | hx
  ·exact .inl (List.mem_of_mem_take hx)
  ·rcases List.mem_append.1 hx with hx | hx
   ·exact .inr hx
   ·exact .inl (List.mem_of_mem_drop hx)
 have hkok:∀ x∈ks,x.OK w:=fun x hx=> by
  rcases hkin x hx with h | h
  ·exact k1.kid h
  ·exact hl.all x h
 have hkb:∀ x∈ks,∀ q∈x.blocks,q∈(MRe.node op sa sc set (some ⟨b,off,none⟩) kc kids mn mx mode n neg).blocks ++ MRe.blocksL l:=fun x hx q hq=> by
  rcases hkin x hx with h | h
  ·exact List.mem_append_left _ (blocks_kid h q hq)
  ·exact List.mem_append_right _ (MRe.mem_blocksL h hq)
 have hlt:∀ q∈(MRe.node op sa sc set (some ⟨b,off,none⟩) kc kids mn mx mode n neg).blocks ++ MRe.blocksL l,q < w.heap.size:=fun x hx=> by
  rcases List.mem_append.1 hx with hx | hx
  ·exact k1.block_lt x hx
  ·exact hl.block_lt x hx
 have hsb:∀ q∈blockIf set.length sa,q∈(MRe.node op sa sc set (some ⟨b,off,none⟩) kc kids mn mx mode n neg).blocks ++ MRe.blocksL l:=fun q hq=> List.mem_append_left _ (by simp only [MRe.blocks,List.mem_append];exact .inl hq);have HSB:=gi hsb;have HSP:=gi k1.spans;have HKOK:=gi hkok;have HKB:=gi hkb;have HLT:=gi hlt;have HR1:=gi hR1;have HKL:=gi hkl;have HKS:=gi hks;clear hR0 hR1 hks hkt hkl hkin hkok hkb hlt hsb hsrc1 hsrc3 htl hdl htk hd hja k1 hl hbb hsz;obtain ⟨src,hsrc⟩:∃ src,src=(MRe.node op sa sc set (some ⟨b,off,none⟩) kc kids mn mx mode n neg).blocks ++ MRe.blocksL l:=⟨_,rfl⟩;rw [←hsrc] at HKB HLT HSB ⊢;simp only [MRe.val];clear hsrc;obtain ⟨c0,c1,c2,c3,c4,c5,c6,c7⟩:=HC.o.cells0;go_enter Tryz.func48,Tryz.ntmps48
 go_upto_region 1 with fail
 rw [←HXE.o,←HBE.o]
 go_wp2_with (at_builtin;refine wpList_append_any rfl (.tmp 10) (.tmp 14) 24 rfl 26 i0 _ 8 96 Tryz.underlying24 Hi.o Hz0.o Hz1.o Hz2.o rfl (by decide) none 0 0 [] rfl (SliceAt.nil _ _ _) (some ⟨b,off,none⟩) i kc (flatK (kids.take i)) rfl HF1.o HS1.o (flatK_one _) (by omega) (by omega) ?hk)
 case hk=>
  intro a1 qc1 w1 hsl hk1 ha1;have SL1:=gi hsl;have K1:=gi (show Keeps [] X w1 from hk1);have HA1:=gi (show ∀ g,a1=some g→X.heap.size≤g by
   intro g hg
   rcases ha1 with h | ⟨g',h,h2⟩
   ·rw [hg] at h;cases h
   ·rw [hg] at h;cases h;exact h2)
  obtain ⟨d0,d1,d2,d3,d4,d5,d6,d7⟩:=hk1.c8 c0 c1 c2 c3 c4 c5 c6 c7;clear hsl hk1 ha1 c0 c1 c2 c3 c4 c5 c6 c7;simp only [sv]
  go_wp2_with (at_builtin;refine wpList_append_any rfl (.tmp 16) (.tmp 17) 24 rfl 26 i0 _ 8 96 Tryz.underlying24 Hi.o Hz0.o Hz1.o Hz2.o rfl (by decide) a1 i qc1 _ rfl SL1.o la l.length lc (flatK l) rfl (flatK_length l) (HS2.o _ (HKX.o.trans K1.o)) (flatK_one l) (by omega) (by omega) ?hk)
  case hk=>
   intro a2 qc2 w2 hsl hk2 ha2;have SL2:=gi hsl;have K2:=gi (show Keeps [] X w2 from K1.o.after hk2 (by intro x hx;simp at hx;exact .inr (HA1.o x hx)));have HA2:=gi (show ∀ g,a2=some g→X.heap.size≤g by
    intro g hg
    rcases ha2 with h | ⟨g',h,h2⟩
    ·exact HA1.o g (by rw [←h,hg])
    ·rw [hg] at h;cases h;have:=K1.o.size;omega)
   have hdB:∀ g,a1=some g→g≠B:=fun g hg h=> by have:=HA1.o g hg;have:=HXS.o;omega
   have c0:=hk2.cell d0 (by simp;intro h;exact hdB _ h rfl);have c1:=hk2.cell d1 (by simp;intro h;exact hdB _ h rfl);have c2:=hk2.cell d2 (by simp;intro h;exact hdB _ h rfl);have c3:=hk2.cell d3 (by simp;intro h;exact hdB _ h rfl);have c4:=hk2.cell d4 (by simp;intro h;exact hdB _ h rfl);have c5:=hk2.cell d5 (by simp;intro h;exact hdB _ h rfl);have c6:=hk2.cell d6 (by simp;intro h;exact hdB _ h rfl);have c7:=hk2.cell d7 (by simp;intro h;exact hdB _ h rfl);clear hsl hk2 ha2 hdB d0 d1 d2 d3 d4 d5 d6 d7 SL1;simp only [sv]
   go_wp2_with (at_builtin;refine wpList_append_any rfl (.tmp 19) (.tmp 23) 24 rfl 26 i0 _ 8 96 Tryz.underlying24 Hi.o Hz0.o Hz1.o Hz2.o rfl (by decide) a2 (i + l.length) qc2 _ rfl SL2.o ja (kids.length - j) (kc - j) (flatK (kids.drop j)) rfl HF3.o (HS3.o _ (HKX.o.trans K2.o)) (flatK_one _) (by omega) (by omega) ?hk)
   case hk=>
    intro a3 qc3 w3 hsl hk3 ha3;rw [←flatK_append,←flatK_append,←HKS.o,←HKL.o] at hsl;rw [←HKL.o];have SL3:=gi hsl;have K3:=gi (show Keeps [] X w3 from K2.o.after hk3 (by intro x hx;simp at hx;exact .inr (HA2.o x hx)));have HA3:=gi (show ∀ g,a3=some g→X.heap.size≤g by
     intro g hg
     rcases ha3 with h | ⟨g',h,h2⟩
     ·exact HA2.o g (by rw [←h,hg])
     ·rw [hg] at h;cases h;have:=K2.o.size;omega)
    have hdB:∀ g,a2=some g→g≠B:=fun g hg h=> by have:=HA2.o g hg;have:=HXS.o;omega
    have d0:=hk3.cell c0 (by simp;intro h;exact hdB _ h rfl);have d1:=hk3.cell c1 (by simp;intro h;exact hdB _ h rfl);have d2:=hk3.cell c2 (by simp;intro h;exact hdB _ h rfl);have d3:=hk3.cell c3 (by simp;intro h;exact hdB _ h rfl);have d4:=hk3.cell c4 (by simp;intro h;exact hdB _ h rfl);have d5:=hk3.cell c5 (by simp;intro h;exact hdB _ h rfl);have d6:=hk3.cell c6 (by simp;intro h;exact hdB _ h rfl);have d7:=hk3.cell c7 (by simp;intro h;exact hdB _ h rfl);clear hsl hk3 ha3 hdB c0 c1 c2 c3 c4 c5 c6 c7 SL2 hs1 hs2;have HNO:=gi (NodesIn.of_sl SL3.o);have hkc:=HNO.o.cap;have hkcl:=HNO.o.le;unfold maxLen at hkc;simp only [sv]
    by_cases h1:ks.length=1
    ·obtain ⟨g,o3,hg,_,hx⟩:=HNO.o.kid (by omega);have hx0:=hx 0 (by omega);have hm0:ks[0]∈ks:=List.getElem_mem (by omega);have hok:=HKOK.o _ hm0;have hbl:=HKB.o _ hm0;have hRR:R=ks[0].tree:=by
      rw [HR1.o]
      match ks,h1 with
      | [x],_=> rfl
     obtain ⟨x,hxe⟩:∃ x,x=ks[0]:=⟨_,rfl⟩;rw [←hxe] at hx0 hok hbl hRR;have HOK:=gi hok;have HBL:=gi hbl;have HRR:=gi hRR;obtain ⟨x0,hx00⟩:∃ x0,x0=x:=⟨_,rfl⟩;rw [←hx00] at HOK HBL HRR;have X0:=gi hx00;obtain ⟨op9,sa9,sc9,set9,ka9,kc9,kids9,mn9,mx9,mode9,n9,neg9⟩:=x;rw [Nat.zero_mul,Nat.add_zero] at hx0;have q:=hx0.node;obtain ⟨f0,f1,f2,f3,f4,f5,f6,f7⟩:=id q;obtain ⟨z0,z1,z2,z3,z4,z5,z6,z7,zf⟩:=zero_cells (K3.o.h HZ.o);rw [hg];have h1n:(ks.length:Int)=1:=by omega
     clear q hx0 hx hm0 hok hbl hRR hxe hx00 hg hkc hkcl;obtain ⟨H1,H2,H3,H4⟩:=js (rule_store HBE.o HKX.o K3.o HZ.o (by rw [←X0.o];exact HOK.o.keep (HKX.o.trans K3.o)) (show From (B + 2) src (.node op9 sa9 sc9 set9 ka9 kc9 kids9 mn9 mx9 mode9 n9 neg9:MRe).blocks by rw [←X0.o];exact From.of_mem HBL.o) HLT.o);go_wp2;refine rc H1.o ?_;exact TreeFrom.of (.node op9 sa9 sc9 set9 ka9 kc9 kids9 mn9 mx9 mode9 n9 neg9) (by rw [HRR.o,X0.o]) rfl H2.o H3.o H4.o
    ·have hRR:R=(MRe.node op sa sc set (a3.map fun g=> ⟨g,0,none⟩) qc3 ks mn mx mode n neg).tree:=by
      rw [HR1.o,oneOr_many (by rw [MRe.trees_length];exact h1)];rfl
     have HRR:=gi hRR;have h1n:¬ (ks.length:Int)=1:=by omega
     have hBH:=K3.o.heap (show X.heap[B]? =some (.cells #[H J op,M sa set.length sc,M (some ⟨b,off,none⟩) kids.length kc,H J mn,H J mx,H J mode,H J n,F neg] 26 (0,0)) by rw [HXE.o,HBE.o];exact (Keeps.a1 _ _).heap (heap_alloc_new w _) (by simp)) (by simp);have HBH:=gi hBH;have hf2:=row_frozen hBH;clear hRR hkc hkcl hBH;go_upto_region 8 with fail
     obtain ⟨V,hVe⟩:∃ V,V=w3.setCell ⟨B,2,none⟩ (M (a3.map fun g=> ⟨g,0,none⟩) ks.length qc3):=⟨_,rfl⟩;have hkV:Keeps [B] w3 V:=by rw [hVe];exact (Keeps.refl [B] w3).setCell (p:=⟨B,2,none⟩) (.inl (by simp)) _
     have hVB:V.heap[B]? =some (.cells #[H J op,M sa set.length sc,M (a3.map fun g=> ⟨g,0,none⟩) ks.length qc3,H J mn,H J mx,H J mode,H J n,F neg] 26 (0,0)):=by rw [hVe];exact heap_setCell_same _ B 2 _ _ _ HBH.o
     rw [←hVe];obtain ⟨a0',a1',a2',a3',a4',a5',a6',a7'⟩:=row_cells hVB;have hBw:w.heap.size≤B:=by rw [HBE.o];exact Nat.le_refl _
     have KV:=gi (show Keeps [B] X V from (K3.o.mono (by simp)).trans hkV);have KWV:=gi (show Keeps [] w V from (HKX.o.trans K3.o).after hkV (by intro x hx;simp at hx;subst hx;exact .inr hBw));have hzV:V.heap[B + 1]? =some (.cells #[H J 0,M none 0 0,M none 0 0,H J 0,H J 0,H J 0,H J 0,F false] 26 (0,0)):=hkV.heap (K3.o.h HZ.o) (by simp);obtain ⟨z0,z1,z2,z3,z4,z5,z6,z7,zf⟩:=zero_cells hzV;have hgB:∀ q∈blockIf ks.length (a3.map fun g=> (⟨g,0,none⟩:Addr)),B + 2≤q:=fun q hq=> Nat.le_trans HXS.o ((Fresh.blockIf_map HA3.o) q hq);have hoV:MRe.OK V (.node op sa sc set (a3.map fun g=> ⟨g,0,none⟩) qc3 ks mn mx mode n neg):=by
      refine .of (HSP.o.keep KWV.o) ⟨HNO.o.keepS hkV (fun q hq=> ?_),fun x hx=> (HKOK.o x hx).keep KWV.o⟩
      have:=hgB q hq
      simp;omega
     have hfrV:From (B + 2) src (MRe.node op sa sc set (a3.map fun g=> ⟨g,0,none⟩) qc3 ks mn mx mode n neg).blocks:=fun q hq=> by
      simp only [MRe.blocks,List.mem_append] at hq
      rcases hq with h | h | h
      ·exact .inl (HSB.o q h)
      ·exact .inr (hgB q h)
      ·obtain ⟨y,hy,hqy⟩:=MRe.blocksL_mem h;exact .inl (HKB.o y hy q hqy)
     obtain ⟨hR,hok,hke,hfr2⟩:=rule_store HBE.o KWV.o (Keeps.refl [] V) hzV hoV hfrV HLT.o;have H1:=gi hR;have H2:=gi hok;have H3:=gi hke;have H4:=gi hfr2;clear hR hok hke hfr2 hVe hkV hVB hzV hoV hfrV hgB hf2 d0 d1 d2 d3 d4 d5 d6 d7;go_wp2;refine rc H1.o ?_;exact TreeFrom.of (.node op sa sc set (a3.map fun g=> ⟨g,0,none⟩) qc3 ks mn mx mode n neg) HRR.o.symm rfl H2.o H3.o H4.o
end Go.Proofs.YtjnlkjlbejelgaaGreat
