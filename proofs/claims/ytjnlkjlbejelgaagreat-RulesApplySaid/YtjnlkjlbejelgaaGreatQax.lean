/- Part 24 of the proof. No condition: every lemma says its own. -/
import Derived.Test.YtjnlkjlbejelgaaGreatQaw
import Derived.Test.YtjnlkjlbejelgaaGreatQau
namespace Go.Proofs.YtjnlkjlbejelgaaGreat
open Go.RowKit
open Go.Value renaming int→H,slice→M,bool→F
open Go.IntKind renaming i64→J
set_option maxRecDepth 100000
set_option maxHeartbeats 16000000
theorem flatP_set2:∀ (l:List (Int × Int)) (i:Nat) (s:Int × Int),i < l.length→((flatP l).set (i * 2) (H J s.1)).set (i * 2 + 1) (H J s.2)=flatP (l.set i s)
 | [],i,s,h=> by simp at h
 | x::r,0,s,_=> by simp [flatP]
 | x::r,i + 1,s,h=> by
  have ih:=flatP_set2 r i s (by simpa using h);have e:flatP (x::r)=H J x.1::H J x.2::flatP r:=rfl;rw [e,show (i + 1) * 2=i * 2 + 2 by omega];simp only [List.set_cons_succ]
  show H J x.1::H J x.2::((flatP r).set (i * 2) (H J s.1)).set (i * 2 + 1) (H J s.2)=_
  rw [ih]
  rfl
theorem cells_mid {w:World} {e g n c i:Nat} {l A B:List (Int × Int)} {s:Int × Int} (h:SliceAt w e 2 (some g) n c (flatP l)) (hl:l=A ++ s::B) (hi:A.length=i):
  w.cell? ⟨g,i * 2,none⟩=some (H J s.1)∧w.cell? ⟨g,i * 2 + 1,none⟩=some (H J s.2):=by
 subst hl;subst hi;have hlt:A.length < (A ++ s::B).length:=by simp
 obtain ⟨h1,h2⟩:=flatP_get (A ++ s::B) A.length hlt;have hs:(A ++ s::B)[A.length]=s:=by simp
 rw [hs] at h1 h2;obtain ⟨a1,a2⟩:=List.getElem?_eq_some_iff.1 h1;obtain ⟨b1,b2⟩:=List.getElem?_eq_some_iff.1 h2;exact ⟨by rw [h.cell _ a1,a2],by rw [h.cell _ b1,b2]⟩
theorem set_mid {w:World} {e g n c i:Nat} {A B:List (Int × Int)} {s t:Int × Int} (h:SliceAt w e 2 (some g) n c (flatP (A ++ s::B))) (hi:A.length=i):
  SliceAt ((w.setCell ⟨g,i * 2,none⟩ (H J t.1)).setCell ⟨g,i * 2 + 1,none⟩ (H J t.2)) e 2 (some g) n c (flatP (A ++ t::B)):=by
 subst hi;have h2:=(h.setN (A.length * 2) (H J t.1)).setN (A.length * 2 + 1) (H J t.2);rw [flatP_set2 _ _ t (by simp)] at h2
 simpa using h2
def SpansPost (w:World) (r:List (Int × Int)) (e:Ending) (w':World):Prop:=
 ∃ a c,e=.returned (sv a r.length c)∧SliceAt w' 86 2 a r.length c (flatP r)∧Keeps [] w w'∧∀ g,a=some g→w.heap.size≤g
theorem joined_any (m1 m2:MRe) (w:World) (k1:m1.OK w) (k2:m2.OK w) (l1:m1.tree.set.length≤1000) (l2:m2.tree.set.length≤1000) (hb:∀ s∈m1.tree.set ++ m2.tree.set,0≤s.1∧0≤s.2∧s.2≤1114111):
  Calls Tryz.prog 132 #[m1.val,m2.val] w (SpansPost w (joinP (m1.tree.set ++ m2.tree.set) [])):=by
 obtain ⟨i0,hi0,hz0,hz1,hz2⟩:=info_parts infoSpan;have Hi:=gi hi0;have Hz0:=gi hz0;have Hz1:=gi hz1;have Hz2:=gi hz2;clear hi0 hz0 hz1 hz2;obtain ⟨R,hR⟩:∃ R,R=joinP (m1.tree.set ++ m2.tree.set) []:=⟨_,rfl⟩;rw [←hR];obtain ⟨op1,sa1,sc1,set1,ka1,kc1,kids1,mn1,mx1,mode1,n1,neg1⟩:=m1;obtain ⟨op2,sa2,sc2,set2,ka2,kc2,kids2,mn2,mx2,mode2,n2,neg2⟩:=m2;replace l1:set1.length≤1000:=l1;replace l2:set2.length≤1000:=l2;replace hb:∀ s∈set1 ++ set2,0≤s.1∧0≤s.2∧s.2≤1114111:=hb;replace hR:R=joinP (set1 ++ set2) []:=hR;have HR:=gi hR;have HB:=gi hb;have HSP1:=gi k1.spans;have HSP2:=gi k2.spans;simp only [MRe.val];clear k1 k2 hR hb;obtain ⟨B,Y,c0,c1,c2,c3,c4,c5,c6,c7,d0,d1,d2,d3,d4,d5,d6,d7,HYE,HBE,KY⟩:=pre2 w op1 sa1 sc1 set1 ka1 kc1 kids1 mn1 mx1 mode1 n1 neg1 op2 sa2 sc2 set2 ka2 kc2 kids2 mn2 mx2 mode2 n2 neg2;obtain ⟨N,hN⟩:∃ N,N=set1.length + set2.length:=⟨_,rfl⟩;have hN2:N≤2000:=by omega
 have HN:=gi hN;clear hN;go_enter Tryz.func132,Tryz.ntmps132
 go_upto_region 1 with fail
 rw [←HYE.o,←HBE.o];go_wp2
 go_cut [6] (fun s6 wx=> ∃ (V:World) (a:Option Nat) (c:Nat),V=wx∧s6=sv a N c∧SliceAt V 86 2 a N c (flatP (set1 ++ set2))∧Keeps [] Y V∧∀ g,a=some g→Y.heap.size≤g)
 case first=>
  refine rg (S:=fun w'=> w'.cell? ⟨B,1,none⟩=some (M sa1 set1.length sc1)∧w'.cell? ⟨B + 1,1,none⟩=some (M sa2 set2.length sc2)) (fun _ k=> ⟨k.c c1,k.c d1⟩) fun kz hHeld=> ?_;refine tk 1 ?_;refine tk 2 ?_;refine tk 4 ?_;refine tk 5 ?_;refine j6 0 fun K hK=> ?_;go_simp;have E1:=gi (((Keeps.refl [] Y).drew).alloc (.cells #[] 86));refine hK.out _ _ (kz.o _ E1.o) fun hHeld=> ?_;clear hK K;try go_frame
  refine j6 3 fun K hK=> ?_;refine oper_append_any (.tmp 10) (.tmp 12) 23 rfl 86 i0 _ 2 16 Tryz.underlying23 Hi.o Hz0.o Hz1.o Hz2.o rfl (by decide) (some Y.heap.size) 0 0 [] rfl (SliceAt.empty Y.drew _ _) sa1 set1.length sc1 (flatP set1) rfl (flatP_length set1) ((HSP1.o.keep (KY.o.trans E1.o)).src) (flatP_one set1) (by omega) (by omega) ?_;intro a2 q2 w2 hs2 hk2 ha2;rw [Nat.zero_add,List.nil_append] at hs2;have S2:=gi hs2;have K2:=gi (show Keeps [] Y w2 from E1.o.after hk2 (by intro x hx;simp at hx;subst hx;exact .inr (Nat.le_refl _)));have G2:=gi (show ∀ g,a2=some g→Y.heap.size≤g by
   intro g hg
   rcases ha2 with h | ⟨g',h,h2⟩
   ·rw [hg] at h;cases h;exact Nat.le_refl _
   ·rw [hg] at h;cases h;simp at h2;omega)
  have hz:0 + set1.length=set1.length:=Nat.zero_add _;rw [hz];clear hs2 hk2 ha2 hz;simp only [sv];refine hK.out _ _ (kz.o _ K2.o) fun hHeld=> ?_;clear hK K;try go_frame
  refine j6 6 fun K hK=> ?_;refine oper_append_any (.tmp 13) (.tmp 15) 23 rfl 86 i0 _ 2 16 Tryz.underlying23 Hi.o Hz0.o Hz1.o Hz2.o rfl (by decide) a2 set1.length q2 _ rfl S2.o sa2 set2.length sc2 (flatP set2) rfl (flatP_length set2) ((HSP2.o.keep (KY.o.trans K2.o)).src) (flatP_one set2) (by omega) (by omega) ?_;intro a3 q3 w3 hs3 hk3 ha3;rw [←flatP_append,←HN.o] at hs3;rw [←HN.o];have S3:=gi hs3;have K3:=gi (show Keeps [] Y w3 from K2.o.after hk3 (by intro x hx;simp at hx;exact .inr (G2.o x hx)));have G3:=gi (show ∀ g,a3=some g→Y.heap.size≤g by
   intro g hg
   rcases ha3 with h | ⟨g',h,h2⟩
   ·exact G2.o g (by rw [←h,hg])
   ·rw [hg] at h;cases h;have:=K2.o.size;omega)
  clear hs3 hk3 ha3;refine hK.out _ _ (kz.o _ K3.o) fun hHeld=> ?_;clear hK K;try go_frame
  refine tk 7 ?_;refine wd ?_;go_wp2;go_meet;exact ⟨_,a3,q3,rfl,rfl,S3.o,K3.o,G3.o⟩
 case rest=>
  obtain ⟨V,gl,cl,rfl,rfl,hsl,hkV,hgl⟩:=hcut;have HSL:=gi hsl;have KV:=gi hkV;have HGL:=gi hgl;clear hsl hkV hgl c0 c1 c2 c3 c4 c5 c6 c7 d0 d1 d2 d3 d4 d5 d6 d7;simp only [sv];go_wp2
  go_loopw [5,7] (fun v i wr=> ∃ (dn rs out:List (Int × Int)) (ao:Option Nat) (co:Nat),i=H J dn.length∧dn.length + rs.length=N∧v=sv ao out.length co∧SliceAt wr 86 2 gl N cl (flatP (dn ++ rs))∧SliceAt wr 86 2 ao out.length co (flatP out)∧joinP rs out=R∧Keeps [] Y wr∧(∀ g,ao=some g→Y.heap.size≤g∧gl≠some g)∧(∀ s∈rs,0≤s.1∧0≤s.2∧s.2≤1114111)∧out.length≤dn.length∧(∀ z∈out,-10≤z.2∧z.2≤10000000)) (fun _ i _=> N - (intOf i).toNat)
  case atStart=> exact ⟨[],set1 ++ set2,[],none,0,rfl,by rw [List.length_append,HN.o];simp,rfl,HSL.o,SliceAt.nil _ _ _,HR.o.symm,KV.o,by simp,HB.o,by simp,by simp⟩
  case round=>
   obtain ⟨dn,rs,out,ao,co,rfl,hlen,rfl,hsl,hso,hj,hkw,hga,hbd,hol,hob⟩:=hrel;have HSA:=gi hsl;have HSO:=gi hso;have HJ:=gi hj;have HKW:=gi hkw;have HGA:=gi hga;have HBD:=gi hbd;have HOL:=gi hol;have HOB:=gi hob;clear hsl hso hj hkw hga hbd hol hob HSL;obtain ⟨wo,hwo⟩:∃ wo,wo=wr:=⟨_,rfl⟩;obtain ⟨i,hi⟩:∃ i,i=dn.length:=⟨_,rfl⟩;rw [←hi] at hlen HOL ⊢;have HI:=gi hi;clear hi
   cases rs with
   | nil=>
    simp only [List.length_nil,Nat.add_zero] at hlen;have hJ:out=R:=by have:=HJ.o;rw [joinP] at this;exact this
    subst hJ;have hlI:¬ (i:Int) < (N:Int):=by omega
    simp only [sv];clear hwo;go_wp2;go_ret;exact ⟨ao,co,rfl,HSO.o,KY.o.trans HKW.o,fun g hg=> Nat.le_trans KY.o.size (HGA.o g hg).1⟩
   | cons x r=>
    simp only [List.length_cons] at hlen;have hlI:(i:Int) < (N:Int):=by omega
    have hi0:(0:Int)≤(i:Int):=by omega
    have hiN:i < N:=by omega
    have hw1:IntKind.i64.wrap ((i:Int) + 1)=(i:Int) + 1:=IntWalk.i64_in _ (by omega)
    cases gl with
    | none=> exfalso;have:=HSA.o.2.1;omega
    | some g=>
     simp only [sv,Option.map_some];clear hwo;go_wp2
     go_loopw [8] (fun kk wq=> ∃ (k:Nat) (y:Int × Int) (p q:List (Int × Int)),kk=H J (k:Int)∧k=i + 1 + p.length∧p.length + q.length=r.length∧SliceAt wq 86 2 (some g) N cl (flatP (dn ++ y::(p ++ q)))∧SliceAt wq 86 2 ao out.length co (flatP out)∧selIn x r=((selIn y q).1,p ++ (selIn y q).2)∧Keeps [] Y wq) (fun kk _=> N - (intOf kk).toNat)
     case atStart=> exact ⟨i + 1,x,[],r,by go_num,rfl,by simp,HSA.o,HSO.o,by simp,HKW.o⟩
     case round=>
      clear HSA HSO HKW;obtain ⟨k,y,p,q,rfl,hk,hpq,hsl,hso,hsel,hkq⟩:=hrel;have HSA:=gi hsl;have HSO:=gi hso;have HSEL:=gi hsel;have HKQ:=gi hkq;clear hsl hso hsel hkq;have HKK:=gi hk
      cases q with
      | nil=>
       have hk:=HKK.o;simp only [List.append_nil] at HSA;have hs2:selIn x r=(y,p):=by have:=HSEL.o;simpa [selIn] using this
       simp only [List.length_nil,Nat.add_zero] at hpq;have hkI:¬ (k:Int) < (N:Int):=by omega
       have hJ2:joinP p (addP out y)=R:=by have:=HJ.o;rw [joinP_cons,hs2] at this;exact this
       have hmem:=selIn_mem x r;rw [hs2] at hmem;have hyb:0≤y.1∧0≤y.2∧y.2≤1114111:=HBD.o y (by simpa using (hmem y).1 (.inl rfl));have hpb:∀ s∈p,0≤s.1∧0≤s.2∧s.2≤1114111:=fun s hs=> HBD.o s (by simpa using (hmem s).1 (.inr hs));have hob2:=addP_bound (s:=y) HOB.o (by omega);have hol2:=addP_length out y;have HJ2:=gi hJ2;have HPB:=gi hpb;have HOB2:=gi hob2;have HOL2:=gi (show (addP out y).length≤i + 1 by have:=HOL.o;omega);obtain ⟨v0,v1⟩:=cells_mid HSA.o rfl HI.o.symm;have HSA2:=gi (show SliceAt wr 86 2 (some g) N cl (flatP ((dn ++ [y]) ++ p)) by rw [List.append_assoc];exact HSA.o);have hglt:=HSA.o.lt;have HGLT:=gi hglt;have hln2:(dn ++ [y]).length=i + 1:=by rw [List.length_append,←HI.o];rfl
       have HLN2:=gi hln2;clear hs2 hJ2 hmem hpb hob2 hol2 hglt hln2 HSEL HJ HBD;obtain ⟨ylo,yhi⟩:=y;simp only at v0 v1 hyb
       rcases List.eq_nil_or_concat out with rfl | ⟨ol,z,hoz⟩
       ·rw [addP_nil] at HJ2 HOB2 HOL2;simp only [List.length_nil] at HSO ⊢;go_upto_region 12 with fail
        refine wp_region_held_drew (S:=fun _=> True) (by kernel_rfl) trivial (fun hHeld=> ?_);refine tk 0 ?_;refine tk 1 ?_;refine tk 2 ?_;refine tf 3 ?_;refine tf 4 ?_;refine tf 5 ?_;refine tf 6 ?_;refine tf 7 ?_;refine tf 8 ?_;refine tf 9 ?_;refine tf 10 ?_;refine tf 11 ?_;refine tf 12 ?_;refine tf 13 ?_;refine tf 14 ?_;refine tf 15 ?_;refine tk 16 ?_;refine wd ?_;clear hHeld;have HSOd:=gi (HSO.o.keep (((Keeps.refl [] wr).drew).alloc (.cells #[H J ylo,H J yhi] 86)) (by simp))
        go_wp2_with (at_builtin;refine wpList_append_any rfl (.tmp 92) (.tmp 97) 23 rfl 86 i0 _ 2 16 Tryz.underlying23 Hi.o Hz0.o Hz1.o Hz2.o rfl (by decide) ao 0 co _ rfl HSOd.o (some ⟨wr.heap.size,0,none⟩) 1 1 [H J ylo,H J yhi] rfl rfl (fun _=> ⟨_,rfl,news_row wr.drew [H J ylo,H J yhi] 86⟩) (by intro u hu;simp at hu;rcases hu with rfl | rfl <;> rfl) (by omega) (by omega) ?hk)
        case hk=>
         intro a4 q4 w4 hs4 hk4 ha4;have S4:=gi hs4;have E4:=gi (((Keeps.refl [] wr).drew).alloc (.cells #[H J ylo,H J yhi] 86));have K4:=gi (show Keeps [] Y w4 from (HKQ.o.trans E4.o).after hk4 (by intro x hx;simp at hx;exact .inr (HGA.o x hx).1));have SA4:=gi ((HSA2.o.keep E4.o (by simp)).keep hk4 (by intro g' hg' hm;cases hg';simp at hm;exact (HGA.o _ hm).2 rfl));have G4:=gi (show ∀ g',a4=some g'→Y.heap.size≤g'∧some g≠some g' by
          intro g' hg'
          rcases ha4 with h | ⟨g2,h,h2⟩
          ·exact HGA.o g' (by rw [←h,hg'])
          ·rw [hg'] at h;cases h;have h3:=HKQ.o.size;have h4:=HGLT.o
           try simp at h2
           exact ⟨by omega,by simp;omega⟩)
         clear hs4 hk4 ha4 v0 v1
         try simp only [sv]
         go_wp2;go_roundw
         case rel=> exact ⟨dn ++ [(ylo,yhi)],p,[(ylo,yhi)],a4,q4,by rw [HLN2.o];go_num,by rw [HLN2.o];omega,rfl,SA4.o,S4.o,HJ2.o,K4.o,G4.o,HPB.o,by rw [HLN2.o];exact HOL2.o,HOB2.o⟩
         case measure=> simp [intOf];omega
       ·rw [List.concat_eq_append] at hoz;subst hoz
        cases ao with
        | none=> exfalso;have:=HSO.o.2.1;simp at this
        | some go=>
         obtain ⟨u0,u1⟩:=cells_mid HSO.o rfl rfl;have hzb:=HOB.o z (by simp);have hff:=HSO.o.fz;obtain ⟨hgoY,hgne⟩:=HGA.o go rfl;have hgg:g≠go:=fun h=> hgne (by rw [h]);obtain ⟨n,hn⟩:∃ n,n=(ol ++ [z]).length:=⟨_,rfl⟩;have hn1:ol.length=n - 1:=by rw [hn];simp
         have hn0:0 < n:=by rw [hn];simp
         have hnl:n≤2000:=by have:=HOL.o;omega
         rw [←hn] at HSO ⊢;rw [hn1] at u1;have HNN:=gi hn;have HN1:=gi hn1;obtain ⟨zlo,zhi⟩:=z;simp only at u1 hzb;have hn0i:(0:Int) < (n:Int):=by omega
         have hw3:IntKind.i64.wrap ((n:Int) - 1)=(n:Int) - 1:=IntWalk.i64_in _ (by omega);have hw4:IntKind.i64.wrap (zhi + 1)=zhi + 1:=IntWalk.i64_in _ (by omega);have hb1:(1:Int)≤(n:Int):=by omega
         have hb2:(n:Int) - 1 < (n:Int):=by omega
         have hb3:((n:Int) - 1).toNat=n - 1:=by omega
         clear hn hn1 u0 hgne;simp only [Option.map_some]
         by_cases hle:ylo≤zhi + 1
         ·rw [addP_in ol (zlo,zhi) (ylo,yhi) hle] at HJ2 HOB2 HOL2;go_upto_region 12 with fail
          refine rg (S:=fun w'=> w'.cell? ⟨g,i * 2,none⟩=some (H J ylo)∧w'.cell? ⟨go,(n - 1) * 2 + 1,none⟩=some (H J zhi)) (fun _ k=> ⟨k.c v0,k.c u1⟩) fun kz hHeld=> ?_;refine tk 0 ?_;refine tk 1 ?_;refine tk 2 ?_;refine tk 3 ?_;refine tk 4 ?_;refine tk 5 ?_;refine tk 6 ?_;refine tk 7 ?_;refine tk 8 ?_;refine tk 9 ?_;refine tk 10 ?_;refine tk 11 ?_;refine tk 12 ?_;refine tk 13 ?_;refine tk 14 ?_;refine tk 15 ?_;refine tk 16 ?_;refine wd ?_;clear hHeld;go_upto_region 13 with fail
          refine rg (S:=fun w'=> w'.cell? ⟨g,i * 2 + 1,none⟩=some (H J yhi)) (fun _ k=> k.c v1) fun kz hHeld=> ?_;refine tk 0 ?_;refine tk 1 ?_;refine tk 2 ?_;refine tk 3 ?_;refine tk 4 ?_;refine tk 5 ?_;refine tk 6 ?_;refine tk 7 ?_;refine tk 9 ?_;refine tk 10 ?_;refine tk 11 ?_;refine tk 12 ?_;refine tk 13 ?_;refine j6 8 fun K hK=> ?_;go_simp;refine hK.out _ _ (v1) (fun hHeld=> ?_);clear hK K;try go_frame
          have e:((zlo,zhi).1,max (zlo,zhi).2 (ylo,yhi).2)=(zlo,max zhi yhi):=rfl;rw [e] at HJ2 HOB2 HOL2;have hkS:Keeps [go] wr (wr.setCell ⟨go,(n - 1) * 2 + 1,none⟩ (H J (max zhi yhi))):=(Keeps.refl [go] wr).setCell (p:=⟨go,(n - 1) * 2 + 1,none⟩) (.inl (by simp)) _;have KS:=gi hkS;clear e hkS;refine tk 14 ?_;refine tk 15 ?_;refine tk 16 ?_;refine j6 17 fun K hK=> ?_;go_simp;refine hK.out _ _ ((KS.o.drew.drew).cell v1 (by simp;exact hgg)) (fun hHeld=> ?_);clear hK K;try go_frame
          refine wd ?_;have hl4:(ol ++ [(zlo,max zhi yhi)]).length=n:=by rw [HNN.o];simp
          have HL4:=gi hl4;have hs4:=((HSO.o.setN ((n - 1) * 2 + 1) (H J (max zhi yhi))).drewN 1).drewN 1;rw [←HN1.o,flatP_set,HN1.o] at hs4;have S4:=gi hs4;have SA4:=gi (HSA2.o.keep KS.o.drew.drew (by intro g' hg' hm';cases hg';simp at hm';exact hgg hm'));have K4:=gi (show Keeps [] Y _ from HKQ.o.after KS.o.drew.drew (by intro x hx;simp at hx;subst hx;exact .inr hgoY));clear hl4 hs4 v0 v1 u1 hff hHeld;go_wp2;go_roundw
          case rel=> exact ⟨dn ++ [(ylo,yhi)],p,ol ++ [(zlo,max zhi yhi)],some go,co,by rw [HLN2.o];go_num,by rw [HLN2.o];omega,by rw [HL4.o];rfl,SA4.o,by rw [HL4.o];exact S4.o,HJ2.o,K4.o,HGA.o,HPB.o,by rw [HLN2.o];exact HOL2.o,HOB2.o⟩
          case measure=> simp [intOf];omega
         ·rw [addP_out ol (zlo,zhi) (ylo,yhi) hle] at HJ2 HOB2 HOL2;go_upto_region 12 with fail
          refine rg (S:=fun w'=> w'.cell? ⟨g,i * 2,none⟩=some (H J ylo)∧w'.cell? ⟨go,(n - 1) * 2 + 1,none⟩=some (H J zhi)) (fun _ k=> ⟨k.c v0,k.c u1⟩) fun kz hHeld=> ?_;refine tk 0 ?_;refine tk 1 ?_;refine tk 2 ?_;refine tk 3 ?_;refine tk 4 ?_;refine tk 5 ?_;refine tk 6 ?_;refine tk 7 ?_;refine tk 8 ?_;refine tk 9 ?_;refine tk 10 ?_;refine tk 11 ?_;refine tk 12 ?_;refine tk 13 ?_;refine tk 14 ?_;refine tk 15 ?_;refine tk 16 ?_;refine wd ?_;clear hHeld;have HSOd:=gi (HSO.o.keep (((Keeps.refl [] wr).drew).alloc (.cells #[H J ylo,H J yhi] 86)) (by simp))
          go_wp2_with (at_builtin;refine wpList_append_any rfl (.tmp 92) (.tmp 97) 23 rfl 86 i0 _ 2 16 Tryz.underlying23 Hi.o Hz0.o Hz1.o Hz2.o rfl (by decide) (some go) n co _ rfl HSOd.o (some ⟨wr.heap.size,0,none⟩) 1 1 [H J ylo,H J yhi] rfl rfl (fun _=> ⟨_,rfl,news_row wr.drew [H J ylo,H J yhi] 86⟩) (by intro u hu;simp at hu;rcases hu with rfl | rfl <;> rfl) (by omega) (by omega) ?hk)
          case hk=>
           intro a4 q4 w4 hs4 hk4 ha4;have hs4:SliceAt w4 86 2 a4 (n + 1) q4 (flatP ((ol ++ [(zlo,zhi)]) ++ [(ylo,yhi)])):=by rw [flatP_append (ol ++ [(zlo,zhi)])];exact hs4
           have S4:=gi hs4;have E4:=gi (((Keeps.refl [] wr).drew).alloc (.cells #[H J ylo,H J yhi] 86));have K4:=gi (show Keeps [] Y w4 from (HKQ.o.trans E4.o).after hk4 (by intro x hx;simp at hx;subst hx;exact .inr hgoY));have SA4:=gi ((HSA2.o.keep E4.o (by simp)).keep hk4 (by intro g' hg' hm;cases hg';simp at hm;exact hgg hm));have G4:=gi (show ∀ g',a4=some g'→Y.heap.size≤g'∧some g≠some g' by
            intro g' hg'
            rcases ha4 with h | ⟨g2,h,h2⟩
            ·exact HGA.o g' (by rw [←h,hg'])
            ·rw [hg'] at h;cases h;have h3:=HKQ.o.size;have h4:=HGLT.o
             try simp at h2
             exact ⟨by omega,by simp;omega⟩)
           have hl4:((ol ++ [(zlo,zhi)]) ++ [(ylo,yhi)]).length=n + 1:=by rw [List.length_append,←HNN.o];rfl
           have HL4:=gi hl4;clear hs4 hk4 ha4 v0 v1 u1 hff hl4
           try simp only [sv]
           go_wp2;go_roundw
           case rel=> exact ⟨dn ++ [(ylo,yhi)],p,(ol ++ [(zlo,zhi)]) ++ [(ylo,yhi)],a4,q4,by rw [HLN2.o];go_num,by rw [HLN2.o];omega,by rw [HL4.o],SA4.o,by rw [HL4.o];exact S4.o,HJ2.o,K4.o,G4.o,HPB.o,by rw [HLN2.o];exact HOL2.o,HOB2.o⟩
           case measure=> simp [intOf];omega
      | cons z q'=>
       simp only [List.length_cons] at hpq;have hkI:(k:Int) < (N:Int):=by omega
       have hkN:k < N:=by omega
       have hk0:(0:Int)≤(k:Int):=by omega
       obtain ⟨v0,v1⟩:=cells_mid HSA.o rfl HI.o.symm;have hlist:dn ++ y::(p ++ z::q')=(dn ++ y::p) ++ z::q':=by simp
       have hlenk:(dn ++ y::p).length=k:=by rw [List.length_append,List.length_cons,←HI.o,HKK.o];omega
       obtain ⟨u0,u1⟩:=cells_mid HSA.o hlist hlenk;have HLIST:=gi hlist;have HLENK:=gi hlenk;have hff:=HSA.o.fz;have hgY:=HGL.o g rfl;obtain ⟨ylo,yhi⟩:=y;obtain ⟨zlo,zhi⟩:=z;simp only at v0 v1 u0 u1;clear hlist hlenk hk;go_wp2;refine rg (S:=fun w'=> w'.cell? ⟨g,i * 2,none⟩=some (H J ylo)∧w'.cell? ⟨g,k * 2,none⟩=some (H J zlo)) (fun _ k=> ⟨k.c v0,k.c u0⟩) fun kz hHeld=> ?_;refine tk 0 ?_;refine tk 1 ?_;refine tk 2 ?_;refine tk 3 ?_;refine tk 4 ?_;refine tk 5 ?_;refine tk 6 ?_;refine tk 7 ?_;refine tk 8 ?_;refine tk 9 ?_;refine tk 10 ?_;refine wd ?_;clear hHeld
       by_cases hc:zlo < ylo
       ·go_upto_region 10 with fail
        refine wp_region_held_drew (S:=fun _=> True) (by kernel_rfl) trivial (fun hHeld=> ?_);refine tk 0 ?_;refine tk 1 ?_;refine tk 2 ?_;refine tk 3 ?_;refine tk 4 ?_;refine tk 5 ?_;refine tk 6 ?_;refine tk 8 ?_;refine tk 9 ?_;refine tk 10 ?_;have hsel2:selIn x r=((selIn (zlo,zhi) q').1,(p ++ [(ylo,yhi)]) ++ (selIn (zlo,zhi) q').2):=by
         rw [HSEL.o];simp only [selIn,if_pos hc,List.append_assoc,List.cons_append,List.nil_append]
        have HSEL2:=gi hsel2;have hsw:SliceAt ((((wr.setCell ⟨g,i * 2,none⟩ (H J zlo)).setCell ⟨g,i * 2 + 1,none⟩ (H J zhi)).setCell ⟨g,k * 2,none⟩ (H J ylo)).setCell ⟨g,k * 2 + 1,none⟩ (H J yhi)) 86 2 (some g) N cl (flatP (dn ++ (zlo,zhi)::((p ++ [(ylo,yhi)]) ++ q'))):=by
         have h1:=set_mid (t:=(zlo,zhi)) HSA.o HI.o.symm;have h2:dn ++ (zlo,zhi)::(p ++ (zlo,zhi)::q')=(dn ++ (zlo,zhi)::p) ++ (zlo,zhi)::q':=by simp
         rw [h2] at h1;have h3:=set_mid (i:=k) (t:=(ylo,yhi)) h1 (by rw [List.length_append,List.length_cons,←HI.o,HKK.o];omega)
         simpa using h3
        have hso2:SliceAt ((((wr.setCell ⟨g,i * 2,none⟩ (H J zlo)).setCell ⟨g,i * 2 + 1,none⟩ (H J zhi)).setCell ⟨g,k * 2,none⟩ (H J ylo)).setCell ⟨g,k * 2 + 1,none⟩ (H J yhi)) 86 2 ao out.length co (flatP out)∧Keeps [] Y ((((wr.setCell ⟨g,i * 2,none⟩ (H J zlo)).setCell ⟨g,i * 2 + 1,none⟩ (H J zhi)).setCell ⟨g,k * 2,none⟩ (H J ylo)).setCell ⟨g,k * 2 + 1,none⟩ (H J yhi)):=by
         have hk4:Keeps [g] wr ((((wr.setCell ⟨g,i * 2,none⟩ (H J zlo)).setCell ⟨g,i * 2 + 1,none⟩ (H J zhi)).setCell ⟨g,k * 2,none⟩ (H J ylo)).setCell ⟨g,k * 2 + 1,none⟩ (H J yhi)):=((((Keeps.refl [g] wr).setCell (.inl (by simp)) _).setCell (.inl (by simp)) _).setCell (.inl (by simp)) _).setCell (.inl (by simp)) _;exact ⟨HSO.o.keep hk4 (by intro g' hg';have:=(HGA.o g' hg').2;simp at this ⊢;exact fun h=> this h.symm),HKQ.o.after hk4 (by intro x hx;simp at hx;subst hx;exact .inr hgY)⟩
        have HSW:=gi hsw;have HS2:=gi hso2;have hik:i < k:=by have:=HKK.o;omega
        have hn1:¬ i=k:=by omega
        have hn2:¬ k=i:=by omega
        have hn3:¬ i * 2=k * 2 + 1:=by omega
        have hn4:¬ i * 2 + 1=k * 2:=by omega
        have hn5:¬ k * 2=i * 2 + 1:=by omega
        have hn6:¬ k * 2 + 1=i * 2:=by omega
        clear hsel2 hsw hso2;refine j7 7 11 (fun K hK=> ?_) fun K hK=> ?_
        ·go_simp;refine hK.out _ _ (trivial) (fun hHeld=> ?_);clear hK K;try go_frame
         refine j6 11 fun K hK=> ?_;go_simp;refine hK.out _ _ (trivial) (fun hHeld=> ?_);clear hK K;try go_frame
         refine tk 12 ?_;refine j6 13 fun K hK=> ?_;go_simp;refine hK.out _ _ (trivial) (fun hHeld=> ?_);clear hK K;try go_frame
         refine tk 14 ?_;refine j6 15 fun K hK=> ?_;go_simp;refine hK.out _ _ (trivial) (fun hHeld=> ?_);clear hK K;try go_frame
         refine wd ?_;clear v0 v1 u0 u1 hff hHeld;go_wp2;go_roundw
         case rel=> exact ⟨k + 1,(zlo,zhi),p ++ [(ylo,yhi)],q',by go_num,by rw [List.length_append,HKK.o];rfl,by simp;omega,HSW.o.keep (S:=[]) ((Keeps.refl [] _).drew.drew) (by simp),HS2.o.1.keep (S:=[]) ((Keeps.refl [] _).drew.drew) (by simp),HSEL2.o,HS2.o.2.drew.drew⟩
         case measure=> simp [intOf];omega
        ·go_simp;refine hK.out _ _ (trivial) (fun hHeld=> ?_);clear hK K;try go_frame
         refine j6 7 fun K hK=> ?_;go_simp;refine hK.out _ _ (trivial) (fun hHeld=> ?_);clear hK K;try go_frame
         refine tk 12 ?_;refine j6 13 fun K hK=> ?_;go_simp;refine hK.out _ _ (trivial) (fun hHeld=> ?_);clear hK K;try go_frame
         refine tk 14 ?_;refine j6 15 fun K hK=> ?_;go_simp;refine hK.out _ _ (trivial) (fun hHeld=> ?_);clear hK K;try go_frame
         refine wd ?_;clear v0 v1 u0 u1 hff hHeld;go_wp2;go_roundw
         case rel=> exact ⟨k + 1,(zlo,zhi),p ++ [(ylo,yhi)],q',by go_num,by rw [List.length_append,HKK.o];rfl,by simp;omega,HSW.o.keep (S:=[]) ((Keeps.refl [] _).drew.drew) (by simp),HS2.o.1.keep (S:=[]) ((Keeps.refl [] _).drew.drew) (by simp),HSEL2.o,HS2.o.2.drew.drew⟩
         case measure=> simp [intOf];omega
       ·have hsel2:selIn x r=((selIn (ylo,yhi) q').1,(p ++ [(zlo,zhi)]) ++ (selIn (ylo,yhi) q').2):=by
         rw [HSEL.o];simp only [selIn,if_neg hc,List.append_assoc,List.cons_append,List.nil_append]
        have HSEL2:=gi hsel2;have HSA2:=gi (show SliceAt wr.drew 86 2 (some g) N cl (flatP (dn ++ (ylo,yhi)::((p ++ [(zlo,zhi)]) ++ q'))) by
         have h:=HSA.o.keep (S:=[]) ((Keeps.refl [] wr).drew) (by simp)
         simpa using h)
        have HSO2:=gi (HSO.o.keep (S:=[]) ((Keeps.refl [] wr).drew) (by simp));clear hsel2 v0 v1 u0 u1 hff;go_wp2;go_roundw
        case rel=> exact ⟨k + 1,(ylo,yhi),p ++ [(zlo,zhi)],q',by go_num,by rw [List.length_append,HKK.o];rfl,by simp;omega,HSA2.o,HSO2.o,HSEL2.o,HKQ.o.drew⟩
        case measure=> simp [intOf];omega
end Go.Proofs.YtjnlkjlbejelgaaGreat
