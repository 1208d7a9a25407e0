/- Part 17 of the proof. No condition: every lemma says its own. -/
import Derived.BigQuiet
import Derived.Lib.QuietBelow
import Derived.Test.YtjnlkjlbejelgaaGreatLap
import Derived.Test.YtjnlkjlbejelgaaGreatLah
namespace Go.Proofs.YtjnlkjlbejelgaaGreat
open Go.RowKit Go.Sort Go.BigFrame
open Go.Value renaming int→H,slice→M,bool→F
open Go.IntKind renaming i64→J
open Go.RowKit
set_option maxRecDepth 100000
set_option maxHeartbeats 16000000
theorem lexL_drop (l m:List Int) (k:Nat) (h:k < l.length) (h':k < m.length):lexL (l.drop k) (m.drop k)=if l[k] < m[k] then -1 else if m[k] < l[k] then 1 else lexL (l.drop (k + 1)) (m.drop (k + 1)):=by
 rw [List.drop_eq_getElem_cons h,List.drop_eq_getElem_cons h'];rfl
theorem lexL_end (l m:List Int) (k:Nat) (h:¬ (k < l.length∧k < m.length)):lexL (l.drop k) (m.drop k)=0:=by
 by_cases h1:k < l.length
 ·rw [List.drop_of_length_le (l:=m) (by omega)]
  cases l.drop k <;> rfl
 ·rw [List.drop_of_length_le (l:=l) (by omega)];rfl
theorem rcompare_any (m1:MRe):∀ (m2:MRe) (w:World),m1.OK w→m2.OK w→m1.tree.bulk≤100000→m2.tree.bulk≤100000→
  Calls Tryz.prog 13 #[m1.val,m2.val] w fun e w'=> e=.returned (H J (cmpT m1.tree m2.tree))∧Keeps [] w w':=by
 induction m1 using MRe.induct with
 | h op1 sa1 sc1 set1 ka1 kc1 kids1 mn1 mx1 mode1 n1 neg1 ih=>
  intro m2 w k1 k2 hb1 hb2;obtain ⟨op2,sa2,sc2,set2,ka2,kc2,kids2,mn2,mx2,mode2,n2,neg2⟩:=m2;have hcmp:=cmpT_eq (MRe.tree (.node op1 sa1 sc1 set1 ka1 kc1 kids1 mn1 mx1 mode1 n1 neg1)) (MRe.tree (.node op2 sa2 sc2 set2 ka2 kc2 kids2 mn2 mx2 mode2 n2 neg2));rw [←lexL_nums] at hcmp;have hk1:(MRe.tree (.node op1 sa1 sc1 set1 ka1 kc1 kids1 mn1 mx1 mode1 n1 neg1)).kids=MRe.trees kids1:=rfl;have hk2:(MRe.tree (.node op2 sa2 sc2 set2 ka2 kc2 kids2 mn2 mx2 mode2 n2 neg2)).kids=MRe.trees kids2:=rfl;rw [hk1,hk2] at hcmp;have hlen:lexL (nums (MRe.tree (.node op1 sa1 sc1 set1 ka1 kc1 kids1 mn1 mx1 mode1 n1 neg1))) (nums (MRe.tree (.node op2 sa2 sc2 set2 ka2 kc2 kids2 mn2 mx2 mode2 n2 neg2)))=0→kids1.length=kids2.length:=fun h=> by
   rw [lexL_nums] at h;have h2:=lexP_zero h (((MRe.tree (.node op1 sa1 sc1 set1 ka1 kc1 kids1 mn1 mx1 mode1 n1 neg1)).kids.length:Int),((MRe.tree (.node op2 sa2 sc2 set2 ka2 kc2 kids2 mn2 mx2 mode2 n2 neg2)).kids.length:Int)) (by simp [nodeN,pairsN]);simp only at h2;rw [hk1,hk2,MRe.trees_length,MRe.trees_length] at h2;omega
  have O1:=gi (fun W (h:Keeps [] w W)=> rorder_any (.node op1 sa1 sc1 set1 ka1 kc1 kids1 mn1 mx1 mode1 n1 neg1) W (k1.keep h) hb1);have O2:=gi (fun W (h:Keeps [] w W)=> rorder_any (.node op2 sa2 sc2 set2 ka2 kc2 kids2 mn2 mx2 mode2 n2 neg2) W (k2.keep h) hb2);have hl1:=nums_length (MRe.tree (.node op1 sa1 sc1 set1 ka1 kc1 kids1 mn1 mx1 mode1 n1 neg1));have hl2:=nums_length (MRe.tree (.node op2 sa2 sc2 set2 ka2 kc2 kids2 mn2 mx2 mode2 n2 neg2));obtain ⟨N1,hN1⟩:∃ N,N=nums (MRe.tree (.node op1 sa1 sc1 set1 ka1 kc1 kids1 mn1 mx1 mode1 n1 neg1)):=⟨_,rfl⟩;obtain ⟨N2,hN2⟩:∃ N,N=nums (MRe.tree (.node op2 sa2 sc2 set2 ka2 kc2 kids2 mn2 mx2 mode2 n2 neg2)):=⟨_,rfl⟩;rw [←hN1] at hcmp hlen O1 hl1;rw [←hN2] at hcmp hlen O2 hl2;have hs1:(MRe.tree (.node op1 sa1 sc1 set1 ka1 kc1 kids1 mn1 mx1 mode1 n1 neg1)).set=set1:=rfl;have hs2:(MRe.tree (.node op2 sa2 sc2 set2 ka2 kc2 kids2 mn2 mx2 mode2 n2 neg2)).set=set2:=rfl;rw [hs1] at hl1;rw [hs2] at hl2;obtain ⟨hbl1,hbs1,hbm1⟩:=kids_bulk hb1;obtain ⟨hbl2,hbs2,hbm2⟩:=kids_bulk hb2;have hp1:N1.length≤200008:=by omega
  have hp2:N2.length≤200008:=by omega
  have hq1:0 < N1.length:=by omega
  have hq2:0 < N2.length:=by omega
  obtain ⟨q,hq⟩:∃ q,q=cmpT (MRe.tree (.node op1 sa1 sc1 set1 ka1 kc1 kids1 mn1 mx1 mode1 n1 neg1)) (MRe.tree (.node op2 sa2 sc2 set2 ka2 kc2 kids2 mn2 mx2 mode2 n2 neg2)):=⟨_,rfl⟩;rw [←hq] at hcmp ⊢;have HCMP:=gi hcmp;have HLEN:=gi hlen;have HI:=gi (fun k (hk:k∈kids1) k' (hk':k'∈kids2) W (h:Keeps [] w W)=> ih k hk k' W ((k1.kid hk).keep h) ((k2.kid hk').keep h) (hbm1 k hk) (hbm2 k' hk'));have HK1:=gi k1.kids;have HK2:=gi k2.kids;have hc1:=k1.nodes.cap;have hc2:=k2.nodes.cap;have he1:=k1.nodes.le;have he2:=k2.nodes.le;unfold maxLen at hc1 hc2;have hbx:=box2 w (.node op1 sa1 sc1 set1 ka1 kc1 kids1 mn1 mx1 mode1 n1 neg1) (.node op2 sa2 sc2 set2 ka2 kc2 kids2 mn2 mx2 mode2 n2 neg2) 26;have hkX:=Keeps.a2 w (.cells #[H J op1,M sa1 set1.length sc1,M ka1 kids1.length kc1,H J mn1,H J mx1,H J mode1,H J n1,F neg1] 26) (.cells #[H J op2,M sa2 set2.length sc2,M ka2 kids2.length kc2,H J mn2,H J mx2,H J mode2,H J n2,F neg2] 26);obtain ⟨B,hBe⟩:∃ B,B=w.heap.size:=⟨_,rfl⟩;simp only [MRe.row] at hbx;simp only [MRe.val] at O1 O2 ⊢;have HBX:=gi hbx;have HKX:=gi hkX;clear hcmp hlen hN1 hN2 hs1 hs2 hbm1 hbm2 hq k1 k2 hb1 hb2 ih hk1 hk2 hbx hkX hl1 hl2 hbs1 hbs2;go_enter Tryz.func13,Tryz.ntmps13
  go_wp2_with fail
  rw [←hBe] at HBX ⊢;refine Calls.mono (O1.o _ HKX.o) ?_;rintro e w2 ⟨a1,c1,rfl,hs1,hk2⟩;have K2:=gi (HKX.o.trans hk2);have KX2:=gi hk2;have S1:=gi hs1;obtain ⟨y0,y1,y2,y3,y4,y5,y6,y7⟩:=(HBX.o.2.keep hk2).cells0;simp only [sv];clear hk2 hs1 hBe;go_wp2_with fail
  refine Calls.mono (O2.o _ K2.o) ?_;rintro e w3 ⟨a2,c2,rfl,hs2,hk3⟩;have K3:=gi (K2.o.trans hk3);have KX3:=gi (KX2.o.trans hk3);have S1':=gi (S1.o.keep hk3 (by simp));have S2:=gi hs2
  cases a1 with
  | none=> exfalso;have h1:=S1.o.2;have h2:N1.length=0:=h1.1;omega
  | some g1=>
  cases a2 with
  | none=> exfalso;have h1:=S2.o.2;have h2:N2.length=0:=h1.1;omega
  | some g2=>
  simp only [sv,Option.map_some];clear hk3 hs2 y0 y1 y2 y3 y4 y5 y6 y7 S1;go_wp2
  go_loopw [7] (fun i wr=> ∃ k:Nat,k≤N1.length∧k≤N2.length∧i=H J k∧lexL (N1.drop k) (N2.drop k)=lexL N1 N2∧Keeps [] w3 wr) (fun i _=> N1.length - (intOf i).toNat)
  case atStart=> exact ⟨0,Nat.zero_le _,Nat.zero_le _,rfl,rfl,Keeps.refl _ _⟩
  case round=>
   obtain ⟨k,hk,hk',rfl,hl,hkp⟩:=hrel;have HL:=gi hl;have HKP:=gi hkp
   by_cases hlt:k < N1.length∧k < N2.length
   ·obtain ⟨hlt1,hlt2⟩:=hlt
    ·have c1:=hkp.cell (S1'.o.cell k (by simpa using hlt1)) (by simp);have d1:=hkp.cell (S2.o.cell k (by simpa using hlt2)) (by simp);rw [List.getElem_map] at c1 d1;have hd:=lexL_drop N1 N2 k hlt1 hlt2;rw [hl] at hd
     generalize N1[k]=x at *
     generalize N2[k]=y at *
     have hi0:(0:Int)≤(k:Int):=by omega
     have hi1:(k:Int) < (N1.length:Int):=by omega
     have hi2:(k:Int) < (N2.length:Int):=by omega
     by_cases h1:x < y
     ·rw [if_pos h1] at hd;have HD:=gi hd;have hcm:=HCMP.o;rw [hd,if_pos (by decide)] at hcm;have HCM:=gi hcm;clear hd hl hkp hcm;go_wp2
      go_quiet (fail)
      go_wp2;go_ret;exact ⟨by rw [HCM.o];rfl,K3.o.trans (HKP.o.drewN _)⟩
     ·by_cases h2:y < x
      ·rw [if_neg h1,if_pos h2] at hd;have hcm:=HCMP.o;rw [hd,if_pos (by decide)] at hcm;have HCM:=gi hcm;clear hd hl hkp hcm;go_wp2
       go_quiet (fail)
       go_wp2
       go_quiet (fail)
       go_wp2;go_ret;exact ⟨by rw [HCM.o];rfl,K3.o.trans (by first | exact (HKP.o.drewN _).drewN _ | exact HKP.o.drewN _)⟩
      ·rw [if_neg h1,if_neg h2] at hd;have HD:=gi hd;clear hd hl hkp;go_wp2
       go_quiet (fail)
       go_wp2
       go_quiet (fail)
       go_wp2;go_roundw
       case rel=> exact ⟨k + 1,by omega,by omega,by go_num,HD.o.symm,HKP.o.drewN _⟩
       case measure=> simp [intOf];omega
   ·obtain ⟨wo,rfl⟩:∃ wo:World,wo=wr:=⟨_,rfl⟩;have hz:lexL N1 N2=0:=by rw [←hl];exact lexL_end N1 N2 k hlt
    have hl12:=HLEN.o hz;have hcm:=HCMP.o;rw [hz,if_neg (by simp)] at hcm;have HCM:=gi hcm;have HL12:=gi hl12;have x2:=(KX3.o.trans hkp).cell (HBX.o.1.cells0.2.2.1) (by simp);have HKZ:=gi (K3.o.trans hkp);have y2:=(KX3.o.trans hkp).cell (HBX.o.2.cells0.2.2.1) (by simp);have hcase:(k < N1.length∧¬ k < N2.length)∨¬ k < N1.length:=by omega
    clear hl hkp hcm hl12 hz HCMP HLEN hlt O1 O2
    rcases hcase with ⟨hlt1,hlt2⟩ | hlt1
    all_goals
     go_wp2
     go_loopw [8] (fun i wq=> ∃ j:Nat,j≤kids1.length∧i=H J j∧cmpTs ((MRe.trees kids1).drop j) ((MRe.trees kids2).drop j)=cmpTs (MRe.trees kids1) (MRe.trees kids2)∧Keeps [] wo wq) (fun i _=> kids1.length - (intOf i).toNat)
     case atStart=> exact ⟨0,Nat.zero_le _,rfl,rfl,Keeps.refl _ _⟩
     case round=>
      obtain ⟨j,hj,rfl,hl,hkp⟩:=hrel;have HLL:=gi hl;have HK:=gi hkp
      by_cases hltj:j < kids1.length
      ·have hltj2:j < kids2.length:=by rw [←HL12.o];exact hltj
       have hkk:=HKZ.o.trans hkp;obtain ⟨b,off,rfl,hb,hx⟩:=(HK1.o.keep hkk).nodes.kid (by omega);obtain ⟨b',off',rfl,hb',hx'⟩:=(HK2.o.keep hkk).nodes.kid (by omega);have u2:=hkp.c x2;have v2:=hkp.c y2;have HCALL:=gi (fun W (h:Keeps [] wo W)=> HI.o kids1[j] (List.getElem_mem hltj) kids2[j] (List.getElem_mem hltj2) W (HKZ.o.trans h));have hd:cmpTs (MRe.trees kids1) (MRe.trees kids2)=if cmpT kids1[j].tree kids2[j].tree≠0 then cmpT kids1[j].tree kids2[j].tree else cmpTs ((MRe.trees kids1).drop (j + 1)) ((MRe.trees kids2).drop (j + 1)):=by
        rw [←hl,trees_drop kids1 j hltj,trees_drop kids2 j hltj2,cmpTs]
       obtain ⟨q',hq'⟩:∃ q',q'=cmpT kids1[j].tree kids2[j].tree:=⟨_,rfl⟩;rw [←hq'] at hd HCALL;have HD:=gi hd;have hA:=hx j hltj;have hB':=hx' j hltj2
       generalize kids1[j]=ka at *
       generalize kids2[j]=kb at *
       obtain ⟨op3,sa3,sc3,set3,ka3,kc3,kids3,mn3,mx3,mode3,n3,neg3⟩:=ka;obtain ⟨op4,sa4,sc4,set4,ka4,kc4,kids4,mn4,mx4,mode4,n4,neg4⟩:=kb;obtain ⟨c0,c1,c2,c3,c4,c5,c6,c7⟩:=hA.cellsO;obtain ⟨d0,d1,d2,d3,d4,d5,d6,d7⟩:=hB'.cellsO;simp only [MRe.val] at HCALL;have cC:∀ d os,Calls Tryz.prog 13 #[.agg #[H J op3,M sa3 set3.length sc3,M ka3 kids3.length kc3,H J mn3,H J mx3,H J mode3,H J n3,F neg3],.agg #[H J op4,M sa4 set4.length sc4,M ka4 kids4.length kc4,H J mn4,H J mx4,H J mode4,H J n4,F neg4]] (grow (redrawn wr d) os) fun e w''=> e=.returned (H J q')∧∃ p:Regrown,w''=grow (redrawn wr p.d) p.os:=fun d os=> Calls.regrown_of ((HCALL.o _ (hkp.trans (Keeps.of_below (below_regrown wr d os)))).mono fun e w' ⟨he,hk⟩=> ⟨he,hk.below (Nat.le_refl _)⟩);have CC:=gi cC;have hi0:(0:Int)≤(j:Int):=by omega
       have hi1:(j:Int) < (kids1.length:Int):=by omega
       have hi2:(j:Int) < (kids2.length:Int):=by omega
       clear cC hA hB' hd hq' hkk hx hx' hl HI hkp;go_wp2;have p2:=cell_regrown u2;have r2:=cell_regrown v2;have s0:=cell_regrown c0;have s1:=cell_regrown c1;have s2:=cell_regrown c2;have s3:=cell_regrown c3;have s4:=cell_regrown c4;have s5:=cell_regrown c5;have s6:=cell_regrown c6;have s7:=cell_regrown c7;have t0:=cell_regrown d0;have t1:=cell_regrown d1;have t2:=cell_regrown d2;have t3:=cell_regrown d3;have t4:=cell_regrown d4;have t5:=cell_regrown d5;have t6:=cell_regrown d6;have t7:=cell_regrown d7;clear c0 c1 c2 c3 c4 c5 c6 c7 d0 d1 d2 d3 d4 d5 d6 d7 u2 v2;refine wp_region_quiet_below (by kernel_rfl) (by kernel_rfl) ?_
       repeat (go_big_quiet_step (exact CC.o _ _))
       refine wpQuiet_nil ?_;intro _ hw';obtain ⟨pq,hw''⟩:=hw';subst hw'';have hk:=Keeps.of_below (below_regrown wr pq.d pq.os);have HK4:=gi (HK.o.trans hk);clear hk p2 r2 s0 s1 s2 s3 s4 s5 s6 s7 t0 t1 t2 t3 t4 t5 t6 t7
       generalize grow (redrawn wr pq.d) pq.os=Y at *
       by_cases hqz:q'=0
       ·have hdd:=HD.o;rw [if_neg (by simp [hqz])] at hdd;have HDE:=gi hdd;clear hdd HD;subst hqz;go_wp2;go_roundw
        case rel=> exact ⟨j + 1,by omega,by go_num,HDE.o.symm,HK4.o⟩
        case measure=> simp [intOf];omega
       ·have hdd:=HD.o;rw [if_pos hqz] at hdd;have HDD:=gi hdd;have hqb:(q' !=0)=true:=by simp [hqz]
        clear hdd HD;go_wp2;go_ret;exact ⟨by rw [HCM.o,HDD.o];rfl,HKZ.o.trans HK4.o⟩
      ·obtain rfl:j=kids1.length:=by omega
       have h0:cmpTs (MRe.trees kids1) (MRe.trees kids2)=0:=by rw [←hl,List.drop_of_length_le (by rw [MRe.trees_length];omega)];simp [cmpTs]
       have HH0:=gi h0;have u2:=hkp.c x2;clear hl hkp h0;go_wp2;go_ret;exact ⟨by rw [HCM.o,HH0.o];rfl,HKZ.o.trans HK.o⟩
theorem take_succ_all {p:Tree→Bool} {l:List Tree} {k:Nat} (hk:k < l.length) (h:∀ x∈l.take k,p x=true) (hp:p l[k]=true):∀ x∈l.take (k + 1),p x=true:=by
 rw [List.take_succ_eq_append_getElem hk];intro x hx
 rcases List.mem_append.1 hx with hx | hx
 ·exact h x hx
 ·simp at hx;subst hx;exact hp
theorem nullAll_iff (l:List Tree):nullAll l=l.all nullP:=by
 induction l with
 | nil=> rfl
 | cons x r ih=> simp only [nullAll,List.all_cons,ih]
theorem nullAny_iff (l:List Tree):nullAny l=l.any nullP:=by
 induction l with
 | nil=> rfl
 | cons x r ih=> simp only [nullAny,List.any_cons,ih]
theorem all_true {p:Tree→Bool} {l:List Tree} (h:∀ x∈l.take l.length,p x=true):l.all p=true:=by
 rw [List.take_length] at h;exact List.all_eq_true.2 h
theorem all_false {p:Tree→Bool} {l:List Tree} {k:Nat} (hk:k < l.length) (h:p l[k]=false):l.all p=false:=by
 cases hq:l.all p with
 | false=> rfl
 | true=> rw [List.all_eq_true.1 hq _ (List.getElem_mem hk)] at h;cases h
theorem any_true {p:Tree→Bool} {l:List Tree} {k:Nat} (hk:k < l.length) (h:p l[k]=true):l.any p=true:=List.any_eq_true.2 ⟨_,List.getElem_mem hk,h⟩
theorem any_false {p:Tree→Bool} {l:List Tree} (h:∀ x∈l.take l.length,p x=false):l.any p=false:=by
 rw [List.take_length] at h
 cases hq:l.any p with
 | false=> rfl
 | true=> obtain ⟨x,hx,hp⟩:=List.any_eq_true.1 hq;rw [h x hx] at hp;cases hp
mutual
def sizeT:Tree→Nat
 | .node _ _ kids _ _ _ _ _=> 1 + sizeTs kids
def sizeTs:List Tree→Nat
 | []=> 0
 | k::ks=> sizeT k + sizeTs ks
end
mutual
def depthT:Tree→Nat
 | .node _ _ kids _ _ _ _ _=> depthTs kids + 1
def depthTs:List Tree→Nat
 | []=> 0
 | k::ks=> max (depthT k) (depthTs ks)
end
theorem sizeTs_take {l:List Tree} {k:Nat} (h:k < l.length):sizeTs (l.take (k + 1))=sizeTs (l.take k) + sizeT l[k]:=by
 induction l generalizing k with
 | nil=> simp at h
 | cons x r ih=>
  cases k with
  | zero=> simp [sizeTs]
  | succ n=>
   have:=ih (k:=n) (by simpa using h)
   simp only [List.take_succ_cons,sizeTs,this,List.getElem_cons_succ];omega
theorem depthTs_take {l:List Tree} {k:Nat} (h:k < l.length):depthTs (l.take (k + 1))=max (depthTs (l.take k)) (depthT l[k]):=by
 induction l generalizing k with
 | nil=> simp at h
 | cons x r ih=>
  cases k with
  | zero=> simp [depthTs]
  | succ n=>
   have:=ih (k:=n) (by simpa using h)
   simp only [List.take_succ_cons,depthTs,this,List.getElem_cons_succ];omega
theorem size_depth:∀ t:Tree,sizeT t≤t.bulk∧depthT t≤t.bulk:=by
 intro t
 induction t using Tree.induct with
 | h op set kids mn mx mode n neg ih=>
  have hs:∀ l:List Tree,(∀ k∈l,sizeT k≤k.bulk∧depthT k≤k.bulk)→sizeTs l≤Tree.bulks l∧depthTs l≤Tree.bulks l:=by
   intro l
   induction l with
   | nil=> intro _;exact ⟨Nat.le_refl _,Nat.le_refl _⟩
   | cons x r ih2=>
    intro h;have h1:=h x (by simp);have h2:=ih2 (fun k hk=> h k (by simp [hk]));simp only [sizeTs,depthTs,Tree.bulks];omega
  have:=hs kids ih
  simp only [sizeT,depthT,Tree.bulk];omega
theorem rsize_any (m:MRe):∀ (w:World),m.OK w→m.tree.bulk≤1000000→
  Calls Tryz.prog 74 #[m.val] w fun e w'=> e=.returned (H J (sizeT m.tree:Nat))∧Keeps [] w w':=by
 induction m using MRe.induct with
 | h op sa sc set ka kc kids mn mx mode n neg ih=>
  intro w k1 hb;have hsz:=(size_depth (MRe.tree (.node op sa sc set ka kc kids mn mx mode n neg))).1;obtain ⟨R,hR0⟩:∃ R,R=sizeT (MRe.tree (.node op sa sc set ka kc kids mn mx mode n neg)):=⟨_,rfl⟩;rw [←hR0] at hsz ⊢;replace hR0:R=1 + sizeTs (MRe.trees kids):=by rw [hR0];simp only [MRe.tree,sizeT]
  have hRb:R≤1000000:=by omega
  have HR0:=gi hR0;obtain ⟨hbl,_,hbk⟩:=kids_bulk hb;have HI:=gi (fun k (hk:k∈kids) W (h:Keeps [] w W)=> ih k hk W ((k1.kid hk).keep h) (hbk k hk));have HK:=gi k1.kids;have hle:=k1.nodes.le;have hcap:=k1.nodes.cap;unfold maxLen at hcap;have HMONO:=gi (show ∀ k,k≤kids.length→sizeTs ((MRe.trees kids).take k)≤R - 1 from fun k hk=> by
   have h1:∀ (l:List Tree) j,sizeTs (l.take j)≤sizeTs l:=by
    intro l
    induction l with
    | nil=> intro j;simp
    | cons x r ih2=>
     intro j
     cases j with
     | zero=> exact Nat.zero_le _
     | succ j=> have:=ih2 j;simp only [List.take_succ_cons,sizeTs];omega
   have:=h1 (MRe.trees kids) k
   omega)
  simp only [MRe.val];obtain ⟨B,Y,c0,c1,c2,c3,c4,c5,c6,c7,HYE,HBE,KY⟩:=pre1 w op sa sc set ka kc kids mn mx mode n neg;clear ih k1 hb hbk hR0 hsz;go_enter Tryz.func74,Tryz.ntmps74
  go_upto_region 1 with fail
  rw [←HYE.o,←HBE.o];go_wp2
  go_loopw [3,4] (fun v i wr=> ∃ k:Nat,k≤kids.length∧i=H J k∧v=H J ((1 + sizeTs ((MRe.trees kids).take k):Nat):Int)∧Keeps [] Y wr) (fun _ i _=> kids.length - (intOf i).toNat)
  case atStart=> exact ⟨0,Nat.zero_le _,rfl,rfl,Keeps.refl _ _⟩
  case round=>
   obtain ⟨k,hkk,rfl,rfl,hkp⟩:=hrel;have HKP:=gi hkp;have y2:=hkp.c c2;clear hkp
   by_cases hlt:k < kids.length
   ·obtain ⟨b,off,rfl,hb,hx⟩:=(HK.o.keep (KY.o.trans HKP.o)).nodes.kid (by omega);have hx0:=hx k hlt;have HC:=gi (HI.o kids[k] (List.getElem_mem hlt) wr (KY.o.trans HKP.o));have hlt':k < (MRe.trees kids).length:=by rw [MRe.trees_length];exact hlt
    have hn:=sizeTs_take hlt';rw [trees_getElem kids k hlt] at hn;have hm1:=HMONO.o (k + 1) (by omega);obtain ⟨acc,hacc⟩:∃ acc,acc=sizeTs ((MRe.trees kids).take k):=⟨_,rfl⟩;rw [←hacc] at hn ⊢
    generalize kids[k]=m at *
    obtain ⟨q,hq⟩:∃ q,q=sizeT m.tree:=⟨_,rfl⟩;rw [←hq] at HC hn;rw [hn] at hm1;have HN:=gi hn;obtain ⟨op1,sa1,sc1,set1,ka1,kc1,kids1,mn1,mx1,mode1,n1,neg1⟩:=m;have g:=hx0.node;obtain ⟨e0,e1,e2,e3,e4,e5,e6,e7⟩:=id g;simp only [MRe.val] at HC;have hq1:1 + acc + q≤1000001:=by omega
    clear g hx0 hx hq hn hacc hm1 hb;go_wp2_with fail
    refine Calls.mono HC.o ?_;rintro e w3 ⟨rfl,hk3⟩;have K3:=gi (HKP.o.trans hk3);clear hk3;go_wp2;go_roundw
    case rel=> exact ⟨k + 1,by omega,by go_num,by rw [HN.o];congr 1;omega,K3.o⟩
    case measure=> simp [intOf];omega
   ·obtain rfl:k=kids.length:=by omega
    have h0:1 + sizeTs ((MRe.trees kids).take kids.length)=R:=by rw [HR0.o,←MRe.trees_length,List.take_length]
    rw [h0];clear h0;go_wp2;go_ret;exact ⟨rfl,KY.o.trans HKP.o⟩
theorem rdepth_any (m:MRe):∀ (w:World),m.OK w→m.tree.bulk≤1000000→
  Calls Tryz.prog 75 #[m.val] w fun e w'=> e=.returned (H J (depthT m.tree:Nat))∧Keeps [] w w':=by
 induction m using MRe.induct with
 | h op sa sc set ka kc kids mn mx mode n neg ih=>
  intro w k1 hb;have hsz:=(size_depth (MRe.tree (.node op sa sc set ka kc kids mn mx mode n neg))).2;obtain ⟨R,hR0⟩:∃ R,R=depthT (MRe.tree (.node op sa sc set ka kc kids mn mx mode n neg)):=⟨_,rfl⟩;rw [←hR0] at hsz ⊢;replace hR0:R=depthTs (MRe.trees kids) + 1:=by rw [hR0];simp only [MRe.tree,depthT]
  have hRb:R≤1000000:=by omega
  have HR0:=gi hR0;obtain ⟨hbl,_,hbk⟩:=kids_bulk hb;have HI:=gi (fun k (hk:k∈kids) W (h:Keeps [] w W)=> ih k hk W ((k1.kid hk).keep h) (hbk k hk));have HK:=gi k1.kids;have hle:=k1.nodes.le;have hcap:=k1.nodes.cap;unfold maxLen at hcap;have HMONO:=gi (show ∀ k,k≤kids.length→depthTs ((MRe.trees kids).take k)≤R - 1 from fun k hk=> by
   have h1:∀ (l:List Tree) j,depthTs (l.take j)≤depthTs l:=by
    intro l
    induction l with
    | nil=> intro j;simp
    | cons x r ih2=>
     intro j
     cases j with
     | zero=> exact Nat.zero_le _
     | succ j=> have:=ih2 j;simp only [List.take_succ_cons,depthTs];omega
   have:=h1 (MRe.trees kids) k
   omega)
  simp only [MRe.val];obtain ⟨B,Y,c0,c1,c2,c3,c4,c5,c6,c7,HYE,HBE,KY⟩:=pre1 w op sa sc set ka kc kids mn mx mode n neg;clear ih k1 hb hbk hR0 hsz;go_enter Tryz.func75,Tryz.ntmps75
  go_upto_region 1 with fail
  rw [←HYE.o,←HBE.o];go_wp2
  go_loopw [3,4] (fun v i wr=> ∃ k:Nat,k≤kids.length∧i=H J k∧v=H J ((depthTs ((MRe.trees kids).take k):Nat):Int)∧Keeps [] Y wr) (fun _ i _=> kids.length - (intOf i).toNat)
  case atStart=> exact ⟨0,Nat.zero_le _,rfl,rfl,Keeps.refl _ _⟩
  case round=>
   obtain ⟨k,hkk,rfl,rfl,hkp⟩:=hrel;have HKP:=gi hkp;have y2:=hkp.c c2;clear hkp
   by_cases hlt:k < kids.length
   ·obtain ⟨b,off,rfl,hb,hx⟩:=(HK.o.keep (KY.o.trans HKP.o)).nodes.kid (by omega);have hx0:=hx k hlt;have HC:=gi (HI.o kids[k] (List.getElem_mem hlt) wr (KY.o.trans HKP.o));have hlt':k < (MRe.trees kids).length:=by rw [MRe.trees_length];exact hlt
    have hn:=depthTs_take hlt';rw [trees_getElem kids k hlt] at hn;have hm1:=HMONO.o (k + 1) (by omega);obtain ⟨acc,hacc⟩:∃ acc,acc=depthTs ((MRe.trees kids).take k):=⟨_,rfl⟩;rw [←hacc] at hn ⊢
    generalize kids[k]=m at *
    obtain ⟨q,hq⟩:∃ q,q=depthT m.tree:=⟨_,rfl⟩;rw [←hq] at HC hn;rw [hn] at hm1;have HN:=gi hn;obtain ⟨op1,sa1,sc1,set1,ka1,kc1,kids1,mn1,mx1,mode1,n1,neg1⟩:=m;have g:=hx0.node;obtain ⟨e0,e1,e2,e3,e4,e5,e6,e7⟩:=id g;simp only [MRe.val] at HC;have hq1:acc≤1000001∧q≤1000001:=by omega
    clear g hx0 hx hq hn hacc hm1 hb;go_wp2_with fail
    refine Calls.mono HC.o ?_;rintro e w3 ⟨rfl,hk3⟩;have K3:=gi (HKP.o.trans hk3);clear hk3
    by_cases hcn:(acc:Int) < (q:Int)
    ·go_wp2;go_roundw
     case rel=> exact ⟨k + 1,by omega,by go_num,by rw [HN.o];congr 1;omega,K3.o⟩
     case measure=> simp [intOf];omega
    ·go_wp2;go_roundw
     case rel=> exact ⟨k + 1,by omega,by go_num,by rw [HN.o];congr 1;omega,K3.o⟩
     case measure=> simp [intOf];omega
   ·obtain rfl:k=kids.length:=by omega
    have h0:depthTs ((MRe.trees kids).take kids.length)=R - 1:=by rw [HR0.o,←MRe.trees_length,List.take_length];omega
    rw [h0];have h1:((R - 1:Nat):Int) + 1=(R:Int):=by have:=HR0.o;omega
    have H1:=gi h1;clear h0 h1;go_wp2;go_ret;exact ⟨by rw [←H1.o];rfl,KY.o.trans HKP.o⟩
mutual
def leafT:Tree→Nat
 | .node _ _ kids _ _ _ _ _=> if kids.isEmpty then 1 else leafTs kids
def leafTs:List Tree→Nat
 | []=> 0
 | k::ks=> leafT k + leafTs ks
end
theorem leafTs_take {l:List Tree} {k:Nat} (h:k < l.length):leafTs (l.take (k + 1))=leafTs (l.take k) + leafT l[k]:=by
 induction l generalizing k with
 | nil=> simp at h
 | cons x r ih=>
  cases k with
  | zero=> simp [leafTs]
  | succ n=>
   have:=ih (k:=n) (by simpa using h)
   simp only [List.take_succ_cons,leafTs,this,List.getElem_cons_succ];omega
theorem leafT_le:∀ t:Tree,leafT t≤t.bulk:=by
 intro t
 induction t using Tree.induct with
 | h op set kids mn mx mode n neg ih=>
  have hs:∀ l:List Tree,(∀ k∈l,leafT k≤k.bulk)→leafTs l≤Tree.bulks l:=by
   intro l
   induction l with
   | nil=> intro _;exact Nat.le_refl _
   | cons x r ih2=>
    intro h;have h1:=h x (by simp);have h2:=ih2 (fun k hk=> h k (by simp [hk]));simp only [leafTs,Tree.bulks];omega
  have:=hs kids ih
  simp only [leafT,Tree.bulk]
  split <;> omega
theorem leafTs_bulk (l:List Tree):leafTs l≤Tree.bulks l:=by
 induction l with
 | nil=> exact Nat.le_refl _
 | cons x r ih=> have:=leafT_le x;simp only [leafTs,Tree.bulks];omega
theorem leaves_any (m:MRe):∀ (w:World),m.OK w→m.tree.bulk≤1000000→
  Calls Tryz.prog 32 #[m.val] w fun e w'=> e=.returned (H J (leafT m.tree:Nat))∧Keeps [] w w':=by
 induction m using MRe.induct with
 | h op sa sc set ka kc kids mn mx mode n neg ih=>
  intro w k1 hb;have hsz:=leafT_le (MRe.tree (.node op sa sc set ka kc kids mn mx mode n neg));obtain ⟨R,hR0⟩:∃ R,R=leafT (MRe.tree (.node op sa sc set ka kc kids mn mx mode n neg)):=⟨_,rfl⟩;rw [←hR0] at hsz ⊢;replace hR0:R=if (MRe.trees kids).isEmpty then 1 else leafTs (MRe.trees kids):=by rw [hR0];simp only [MRe.tree,leafT]
  have hkle:=leafTs_bulk (MRe.trees kids);have hkb:Tree.bulks (MRe.trees kids)≤1000000:=by simp only [MRe.tree,Tree.bulk] at hb;omega
  have hRb:R≤1000000:=by omega
  have HR0:=gi hR0;obtain ⟨hbl,_,hbk⟩:=kids_bulk hb;have HI:=gi (fun k (hk:k∈kids) W (h:Keeps [] w W)=> ih k hk W ((k1.kid hk).keep h) (hbk k hk));have HK:=gi k1.kids;have hle:=k1.nodes.le;have hcap:=k1.nodes.cap;unfold maxLen at hcap;have HMONO:=gi (show ∀ k,k≤kids.length→leafTs ((MRe.trees kids).take k)≤1000000 from fun k hk=> by
   have h1:∀ (l:List Tree) j,leafTs (l.take j)≤leafTs l:=by
    intro l
    induction l with
    | nil=> intro j;simp
    | cons x r ih2=>
     intro j
     cases j with
     | zero=> exact Nat.zero_le _
     | succ j=> have:=ih2 j;simp only [List.take_succ_cons,leafTs];omega
   have:=h1 (MRe.trees kids) k
   omega)
  simp only [MRe.val];obtain ⟨B,Y,c0,c1,c2,c3,c4,c5,c6,c7,HYE,HBE,KY⟩:=pre1 w op sa sc set ka kc kids mn mx mode n neg;clear ih k1 hb hbk hR0 hsz hkle hkb
  by_cases h0:kids.length=0
  ·have hk0:kids=[]:=List.eq_nil_of_length_eq_zero h0;have hR1:R=1:=by rw [HR0.o,hk0];rfl
   have h0b:((kids.length:Int)==0)=true:=by rw [h0];rfl
   subst hR1;clear h0 hk0;go_enter Tryz.func32,Tryz.ntmps32
   go_upto_region 1 with fail
   rw [←HYE.o,←HBE.o];go_wp2;go_ret;exact ⟨rfl,KY.o⟩
  have h0b:((kids.length:Int)==0)=false:=by simp;exact fun h=> h0 (by rw [h];rfl)
  have HRL:=gi (show R=leafTs (MRe.trees kids) by rw [HR0.o,if_neg];intro h;rw [List.isEmpty_iff] at h;exact h0 (by rw [←MRe.trees_length,h];rfl));clear HR0 h0;go_enter Tryz.func32,Tryz.ntmps32
  go_upto_region 1 with fail
  rw [←HYE.o,←HBE.o];go_wp2
  go_loopw [3,4] (fun v i wr=> ∃ k:Nat,k≤kids.length∧i=H J k∧v=H J ((leafTs ((MRe.trees kids).take k):Nat):Int)∧Keeps [] Y wr) (fun _ i _=> kids.length - (intOf i).toNat)
  case atStart=> exact ⟨0,Nat.zero_le _,rfl,rfl,Keeps.refl _ _⟩
  case round=>
   obtain ⟨k,hkk,rfl,rfl,hkp⟩:=hrel;have HKP:=gi hkp;have y2:=hkp.c c2;clear hkp
   by_cases hlt:k < kids.length
   ·obtain ⟨b,off,rfl,hb,hx⟩:=(HK.o.keep (KY.o.trans HKP.o)).nodes.kid (by omega);have hx0:=hx k hlt;have HC:=gi (HI.o kids[k] (List.getElem_mem hlt) wr (KY.o.trans HKP.o));have hlt':k < (MRe.trees kids).length:=by rw [MRe.trees_length];exact hlt
    have hn:=leafTs_take hlt';rw [trees_getElem kids k hlt] at hn;have hm1:=HMONO.o (k + 1) (by omega);obtain ⟨acc,hacc⟩:∃ acc,acc=leafTs ((MRe.trees kids).take k):=⟨_,rfl⟩;rw [←hacc] at hn ⊢
    generalize kids[k]=m at *
    obtain ⟨q,hq⟩:∃ q,q=leafT m.tree:=⟨_,rfl⟩;rw [←hq] at HC hn;rw [hn] at hm1;have HN:=gi hn;obtain ⟨op1,sa1,sc1,set1,ka1,kc1,kids1,mn1,mx1,mode1,n1,neg1⟩:=m;have g:=hx0.node;obtain ⟨e0,e1,e2,e3,e4,e5,e6,e7⟩:=id g;simp only [MRe.val] at HC;have hq1:acc + q≤1000001:=by omega
    clear g hx0 hx hq hn hacc hm1 hb;go_wp2_with fail
    refine Calls.mono HC.o ?_;rintro e w3 ⟨rfl,hk3⟩;have K3:=gi (HKP.o.trans hk3);clear hk3;go_wp2;go_roundw
    case rel=> exact ⟨k + 1,by omega,by go_num,by rw [HN.o];congr 1,K3.o⟩
    case measure=> simp [intOf];omega
   ·obtain rfl:k=kids.length:=by omega
    have h0:leafTs ((MRe.trees kids).take kids.length)=R:=by rw [HRL.o,←MRe.trees_length,List.take_length]
    rw [h0];clear h0;go_wp2;go_ret;exact ⟨rfl,KY.o.trans HKP.o⟩
theorem size1_any (m:MRe):∀ (b o c u x:Nat) (w:World),At8 w b o m→m.OK w→w.cell? ⟨c,0,none⟩=some (.func (Fn.func 68) #[] #[.pointer (some ⟨u,0,none⟩),.pointer (some ⟨c,0,none⟩)])→NumAt w u x→x + sizeT m.tree≤2000000→u≠b→u≠c→u ∉ m.blocks→
  Calls Tryz.prog 68 #[.pointer (some ⟨b,o,none⟩),.pointer (some ⟨u,0,none⟩),.pointer (some ⟨c,0,none⟩)] w fun e w'=> e=.returned (.tuple #[])∧Keeps [u] w w'∧NumAt w' u (x + sizeT m.tree):=by
 induction m using MRe.induct with
 | h op sa sc set ka kc kids mn mx mode n neg ih=>
  intro b o c u x w h1 k1 hc hu hx1 hub huc hum;have a2:=h1.node.c2;have hcap:=k1.nodes.cap;have hle:=k1.nodes.le;unfold maxLen at hcap;have hT:sizeT (MRe.node op sa sc set ka kc kids mn mx mode n neg).tree=1 + sizeTs (MRe.trees kids):=by simp only [MRe.tree,sizeT]
  rw [hT] at hx1 ⊢;have HK1:=gi k1.kids;have hblk:u ∉ blockIf kids.length ka ++ MRe.blocksL kids:=fun h=> hum (by simp only [MRe.blocks,List.mem_append] at h ⊢;exact .inr h);have HBL:=gi hblk;have HI:=gi ih;have hc0:=hu.cell;have hf0:=hu.fz;have HNU:=gi hu;have HUB:=gi hub;have HUC:=gi huc;have HX:=gi hx1;have hxi:(x:Int)≤2000000:=by omega
  have hx0:(0:Int)≤(x:Int):=by omega
  clear ih h1 k1 hT hu hx1 hum hblk;go_enter Tryz.func68,Tryz.ntmps68
  go_upto_region 1 with fail
  obtain ⟨X,hX⟩:∃ X,X=w.setCell ⟨u,0,none⟩ (H J ((x:Int) + 1)):=⟨_,rfl⟩;rw [←hX];have NX:=gi (show NumAt X u (x + 1) by rw [hX];exact HNU.o.set (x + 1));have KX:=gi (show Keeps [u] w X by rw [hX];exact (Keeps.refl [u] w).setCell (p:=⟨u,0,none⟩) (.inl (by simp)) _);have hcX:=KX.o.cell hc (by simp only [List.mem_cons,List.not_mem_nil,or_false];exact fun h=> HUC.o h.symm);have a2X:=KX.o.cell a2 (by simp only [List.mem_cons,List.not_mem_nil,or_false];exact fun h=> HUB.o h.symm);clear hX hc0 hf0 hc a2 HNU hxi hx0;go_wp2
  go_loopw [12] (fun i wr=> ∃ k:Nat,k≤kids.length∧i=H J k∧∃ y:Nat,NumAt wr u y∧y + sizeTs ((MRe.trees kids).drop k)=x + (1 + sizeTs (MRe.trees kids))∧Keeps [u] w wr∧Keeps [u] X wr) (fun i _=> kids.length - (intOf i).toNat)
  case atStart=> exact ⟨0,Nat.zero_le _,rfl,x + 1,NX.o,by rw [List.drop_zero];omega,KX.o,Keeps.refl _ _⟩
  case round=>
   obtain ⟨k,hk,rfl,y,hn,hl,hkw,hkX⟩:=hrel;have HLL:=gi hl;have HKW:=gi hkw;have HKX:=gi hkX;have HN:=gi hn
   by_cases hlt:k < kids.length
   ·have hkin:=HK1.o.keepS hkw (by intro q hq;simp only [List.mem_cons,List.not_mem_nil,or_false];intro h;subst h;exact HBL.o hq);obtain ⟨b',off,rfl,hb,hx⟩:=hkin.nodes.kid (by omega);have x1:=hkX.cell hcX (by simp only [List.mem_cons,List.not_mem_nil,or_false];exact fun h=> HUC.o h.symm);have x2:=hkX.cell a2X (by simp only [List.mem_cons,List.not_mem_nil,or_false];exact fun h=> HUB.o h.symm);have hc1:=hkin.all kids[k] (List.getElem_mem hlt);have hub':u≠b':=fun h=> HBL.o (List.mem_append_left _ (by unfold blockIf;rw [if_neg (by omega)];simp [h]));have hum':u ∉ kids[k].blocks:=fun h=> HBL.o (List.mem_append_right _ (MRe.mem_blocksL (List.getElem_mem hlt) h));have hd:sizeTs ((MRe.trees kids).drop k)=sizeT kids[k].tree + sizeTs ((MRe.trees kids).drop (k + 1)):=by rw [trees_drop kids k hlt,sizeTs]
    have hxs:=HX.o;have HCALL:=gi (fun (W:World) (h:Keeps [] wr W)=> HI.o kids[k] (List.getElem_mem hlt) b' (off + k * 8) c u y W ((hx k hlt).keep h) (hc1.keep h) (h.c x1) (HN.o.keep h (by simp)) (by omega) hub' HUC.o hum');have HD:=gi (show (y + sizeT kids[k].tree) + sizeTs ((MRe.trees kids).drop (k + 1))=x + (1 + sizeTs (MRe.trees kids)) by omega);clear hd hc1 hx hl hkX hkw HI hcX a2X hn hkin hub' hum' hxs;go_wp2;refine rg (S:=fun w'=> w'.cell? ⟨c,0,none⟩=some (.func (Fn.func 68) #[] #[.pointer (some ⟨u,0,none⟩),.pointer (some ⟨c,0,none⟩)])∧w'.cell? ⟨b,o + 2,none⟩=some (M (some ⟨b',off,none⟩) kids.length kc)) (fun _ k=> ⟨k.c x1,k.c x2⟩) fun kz hHeld=> ?_;refine tk 0 ?_;refine tk 1 ?_;refine tk 2 ?_;refine tk 3 ?_;refine tk 4 ?_;refine tk 5 ?_;refine tk 6 ?_;refine j6 7 fun K hK=> ?_;go_simp
    go_at_call 68
    refine Calls.mono (HCALL.o _ ((Keeps.refl [] wr).drew)) ?_;rintro e w3 ⟨rfl,hk3,hn3⟩;have K3:=gi ((((Keeps.refl [] wr).drew).mono (S':=[u]) (by simp)).trans hk3);have N3:=gi hn3;clear hk3 hn3 HCALL;refine hK.out _ _ (⟨K3.o.cell x1 (by simp only [List.mem_cons,List.not_mem_nil,or_false];exact fun h=> HUC.o h.symm),K3.o.cell x2 (by simp only [List.mem_cons,List.not_mem_nil,or_false];exact fun h=> HUB.o h.symm)⟩) (fun hHeld=> ?_);clear hK K;try go_frame
    refine wd ?_;go_wp2;go_roundw
    case rel=> exact ⟨k + 1,by omega,by go_num,y + sizeT kids[k].tree,N3.o,HD.o,HKW.o.trans K3.o,HKX.o.trans K3.o⟩
    case measure=> simp [intOf];omega
   ·obtain rfl:k=kids.length:=by omega
    have h0:sizeTs ((MRe.trees kids).drop kids.length)=0:=by rw [List.drop_of_length_le (by rw [MRe.trees_length];omega)];rfl
    have HH:=gi (show x + (1 + sizeTs (MRe.trees kids))=y by omega);clear hl hkX hkw hn h0;go_wp2
    go_end0
    exact ⟨rfl,HKW.o,by rw [HH.o];exact HN.o⟩
theorem asize_any (m:MRe) (w:World) (k1:m.OK w) (hbz:m.tree.bulk≤1000000):
  Calls Tryz.prog 33 #[m.val] w fun e w'=> e=.returned (H J (sizeT m.tree))∧Keeps [] w w':=by
 obtain ⟨B,hB⟩:∃ B,B=w.heap.size:=⟨_,rfl⟩;have hlt:=k1.block_lt;have HW:=gi (fun (W:World) (h1:At8 W B 0 m) (h2:m.OK W) (h3:W.cell? ⟨B + 1 + 1,0,none⟩=some (.func (Fn.func 68) #[] #[.pointer (some ⟨B + 1,0,none⟩),.pointer (some ⟨B + 1 + 1,0,none⟩)])) (h4:NumAt W (B + 1) 0)=> size1_any m B 0 (B + 1 + 1) (B + 1) 0 W h1 h2 h3 h4 (by have:=(size_depth m.tree).1;omega) (by omega) (by omega) (fun h=> by have:=hlt _ h;omega));have HK1:=gi k1;obtain ⟨r1,hr1⟩:∃ r,r=m:=⟨_,rfl⟩;obtain ⟨op1,sa1,sc1,set1,ka1,kc1,kids1,mn1,mx1,mode1,n1,neg1⟩:=m;simp only [MRe.val];have hmf:∀ (fn:Fn) (first cap:Array Value) (w:World),(Instr.makeFunc fn first cap).run Tryz.prog w=.ok (.func fn first cap) w:=fun _ _ _ _=> rfl;rw [←hr1] at HW HK1 ⊢;have R1:r1.row=[H J op1,M sa1 set1.length sc1,M ka1 kids1.length kc1,H J mn1,H J mx1,H J mode1,H J n1,F neg1]:=by rw [hr1];rfl
 have HR1:=gi R1;have HB:=gi hB;clear hr1 R1 k1 hlt hB hbz;go_enter Tryz.func33,Tryz.ntmps33
 go_wp2_with fail
 rw [←HB.o];refine Calls.mono (HW.o _ ?_ ?_ ?_ ?_) ?_
 ·rw [HB.o];exact At8.keep (At8.box HR1.o.symm) (Keeps.a2 _ _ _)
 ·exact HK1.o.keep (Keeps.a3 w _ _ _)
 ·have hc:=cell_new ((w.alloc (.cells #[H J op1,M sa1 set1.length sc1,M ka1 kids1.length kc1,H J mn1,H J mx1,H J mode1,H J n1,F neg1] 26)).alloc (.cells #[H J 0] 3)) #[.func (Fn.func 68) #[] #[.pointer (some ⟨B + 1,0,none⟩),.pointer (some ⟨B + 1 + 1,0,none⟩)]] 93 0;have hs:((w.alloc (.cells #[H J op1,M sa1 set1.length sc1,M ka1 kids1.length kc1,H J mn1,H J mx1,H J mode1,H J n1,F neg1] 26)).alloc (.cells #[H J 0] 3)).heap.size=B + 1 + 1:=by simp [HB.o]
  rw [hs] at hc;exact hc
 ·exact (Keeps.a1 _ _).heap (by rw [HB.o];exact heap_alloc2_new w _ _) (by simp)
 rintro e w2 ⟨rfl,hk,hn⟩;rw [Nat.zero_add] at hn;have HK:=gi (((Keeps.a3 w _ _ _).mono (S':=[B + 1]) (by simp)).trans hk);have hc:=hn.cell;clear hk;have HN:=gi hn;clear hn;go_wp2;go_ret;exact ⟨rfl,HK.o.mono (by intro x hx;simp at hx;subst hx;exact .inr (by have:=HB.o;omega))⟩
end Go.Proofs.YtjnlkjlbejelgaaGreat
