/- Part 28 of the proof. No condition: every lemma says its own. -/
import Derived.Test.YtjnlkjlbejelgaaGreatLba
namespace Go.Proofs.YtjnlkjlbejelgaaGreat
open Go.RowKit
open Go.Value renaming int→H,slice→M,bool→F
open Go.IntKind renaming i64→J
set_option maxRecDepth 100000
set_option maxHeartbeats 16000000
theorem leaf_left {lf a1:Int} {d:Nat} {op n:Int} {neg:Bool} (ha:a1=lf - 1):Left lf d a1 (MRe.tree (.node op none 0 [] none 0 [] 0 0 0 n neg)):=by
 subst ha;refine ⟨?_,.inl (Int.le_refl _),?_⟩
 ·simp only [MRe.tree,MRe.trees,sizeT,sizeTs];omega
 ·simp only [MRe.tree,MRe.trees,depthT,depthTs];omega
theorem Inner.left' {lf a1:Int} {d:Nat} {lf':Int} {t:Tree} (ha:a1=lf - 1) (h:Inner a1 d lf' t):Left lf (d + 1) lf' t:=by subst ha;exact h.left
theorem Lone.left' {lf a1:Int} {d:Nat} {lf':Int} {t:Tree} (ha:a1=lf - 1) (h:Lone a1 lf' t):Left lf d lf' t:=by subst ha;exact h.left
theorem kids_inner {a1 lf':Int} {d:Nat} {ks:List MRe} {op:Int} {sa:Option Addr} {sc:Nat} {set:List (Int × Int)} {ka:Option Addr} {kc:Nat} {mn mx mode n:Int} {neg:Bool} (h1:(sizeTs (MRe.trees ks):Int)≤a1 - lf') (h2:-(2 * (d:Int))≤lf') (h3:depthTs (MRe.trees ks)≤d + 1):Inner a1 d lf' (MRe.tree (.node op sa sc set ka kc ks mn mx mode n neg)):=by
 refine ⟨?_,h2,?_⟩
 ·simp only [MRe.tree,sizeT];omega
 ·simp only [MRe.tree,depthT];omega
theorem lf_bound {a1 l5:Int} {d:Nat} {t:Tree} (p:Left a1 d l5 t) (h:3≤a1) (h2:a1≤1000) (hd:d≤100):-1000≤l5∧l5≤1000:=by
 obtain ⟨p1,p2,_⟩:=p;omega
theorem two_inner {a1 l5 l7:Int} {d:Nat} {s t:MRe} {op:Int} {sa:Option Addr} {sc:Nat} {set:List (Int × Int)} {ka:Option Addr} {kc:Nat} {mn mx mode n:Int} {neg:Bool} (h:3≤a1) (p:Left a1 d l5 s.tree) (q:Left l5 d l7 t.tree):Inner a1 d l7 (MRe.tree (.node op sa sc set ka kc [s,t] mn mx mode n neg)):=by
 obtain ⟨p1,p2,p3⟩:=p;obtain ⟨q1,q2,q3⟩:=q;refine ⟨?_,by omega,?_⟩
 ·simp only [MRe.tree,MRe.trees,sizeT,sizeTs];omega
 ·simp only [MRe.tree,MRe.trees,depthT,depthTs];omega
theorem bulks_all {l:List MRe} {bd:Nat} (h:∀ x∈l,x.tree.bulk≤bd):Tree.bulks (MRe.trees l)≤l.length * bd:=by
 induction l with
 | nil=> exact Nat.zero_le _
 | cons x r ih=>
  have h1:=h x (by simp);have h2:=ih (fun y hy=> h y (by simp [hy]))
  show x.tree.bulk + Tree.bulks (MRe.trees r)≤(r.length + 1) * bd
  rw [Nat.succ_mul];omega
theorem wf_of {op mn mx mode n:Int} {neg:Bool} {kids:List MRe} (h:NodeOK op [] kids.length mn mx mode n neg) (hk:∀ x∈kids,x.tree.WF):Tree.WF (.node op [] (MRe.trees kids) mn mx mode n neg):=
 .mk (by rw [MRe.trees_length];exact h) (fun t ht=> by
  rw [MRe.trees_eq] at ht;obtain ⟨x,hx,rfl⟩:=List.mem_map.1 ht;exact hk x hx)
theorem sv_slice (a:Option Nat) (n c:Nat):sv a n c=M (a.map fun x=> ⟨x,0,none⟩) n c:=by cases a <;> rfl
theorem gen_node {w V:World} {g B T:Nat} {la lc zs uses lf0 lf} {op n:Int} {neg:Bool} {ka:Option Addr} {kc:Nat} {kids:List MRe} {bd:Nat} {P:Int→Tree→Prop} (hP:P lf (MRe.tree (.node op none 0 [] ka kc kids 0 0 0 n neg))) (h0:MakerAt w g la lc zs uses lf0) (hm:MakerAt V g la lc zs uses lf) (hk:Keeps [g] w V) (hB:B=w.heap.size)
  (hz:V.heap[B]? =some (.cells #[H J 0,M none 0 0,M none 0 0,H J 0,H J 0,H J 0,H J 0,F false] T (0,0))) (ok:KidsIn V ka kc kids) (hfr:∀ b∈blockIf kids.length ka ++ MRe.blocksL kids,B < b) (hno:NodeOK op [] kids.length 0 0 0 n neg) (hkw:∀ x∈kids,x.tree.WF) (hkb:∀ x∈kids,x.tree.bulk≤bd) (hkl:kids.length≤3):
  (set8 V B (H J op) (M none 0 0) (M ka kids.length kc) (H J 0) (H J 0) (H J 0) (H J n) (F neg)).heap[B]? =some (.cells #[H J op,M none 0 0,M ka kids.length kc,H J 0,H J 0,H J 0,H J n,F neg] T (0,0))∧
  GenPost w g la lc zs uses P (1 + 3 * bd) (.returned (.agg #[H J op,M none 0 0,M ka kids.length kc,H J 0,H J 0,H J 0,H J n,F neg])) (set8 V B (H J op) (M none 0 0) (M ka kids.length kc) (H J 0) (H J 0) (H J 0) (H J n) (F neg)):=by
 obtain ⟨hR,hok,hm,hk,hfr⟩:=gen_store (op:=op) (set:=[]) (sa:=none) (sc:=0) (ka:=ka) (kc:=kc) (kids:=kids) (mn:=0) (mx:=0) (mode:=0) (n:=n) (neg:=neg) h0 hm hk (Nat.le_of_eq hB.symm) hz (.of (SpansIn.nil _) ok) (fun b hb=> by
  have hb:b∈blockIf kids.length ka ++ MRe.blocksL kids:=by simpa [MRe.blocks,blockIf] using hb
  have:=hfr b hb
  omega)
 refine ⟨hR,.node op none 0 [] ka kc kids 0 0 0 n neg,_,rfl,hok,hm,hk,hfr,wf_of hno hkw,?_,hP⟩;have h1:=bulks_all hkb;have h2:kids.length * bd≤3 * bd:=Nat.mul_le_mul_right bd hkl
 show 1 + 0 + Tree.bulks (MRe.trees kids)≤_
 omega
theorem tree_step {d bd:Nat} (TH:∀ d',d=d' + 1→TreeGen d' bd) (hd:d≤100) (hbd:3≤bd):TreeGen d (1 + 3 * bd):=by
 intro w g la lc zs uses lf h hlo hhi;have HM:=gi h;have HLH:=gi (And.intro hlo hhi);have HTH:=gi TH;have HGL:=gi h.lt;clear TH hlo hhi;obtain ⟨B,hBe⟩:∃ B,B=w.heap.size:=⟨_,rfl⟩;obtain ⟨X,hXe⟩:∃ X:World,X=w.alloc (.cells #[H J 0,M none 0 0,M none 0 0,H J 0,H J 0,H J 0,H J 0,F false] 26):=⟨_,rfl⟩;have hkX:Keeps [] w X:=by rw [hXe];exact Keeps.a1 _ _
 have hz:X.heap[B]? =some (.cells #[H J 0,M none 0 0,M none 0 0,H J 0,H J 0,H J 0,H J 0,F false] 26 (0,0)):=by rw [hXe,hBe];exact heap_alloc_new w _
 have hmX:=h.keep hkX;obtain ⟨at0,cp,h0,h1,hr⟩:=hmX.row;obtain ⟨c0,c1,c2,c3,c4,cf⟩:=row5_cells hr;have HXS:=gi (show B + 1≤X.heap.size by rw [hXe,hBe];simp);have HBE:=gi hBe;have HXE:=gi hXe;have HKX:=gi hkX;have HZ:=gi hz;have HR:=gi hr;have HMX:=gi hmX;have HCP:=gi (And.intro h0 h1);have HBG:=gi (show B≠g by have:=h.lt;omega);clear h hBe hXe hkX hz hmX hr h0 h1;go_enter Tryz.func73,Tryz.ntmps73
 go_upto_region 1 with fail
 rw [←HXE.o,←HBE.o];go_upto_region 2 with fail
 obtain ⟨a1,ha1⟩:∃ a1,a1=wrap64 (lf - 1):=⟨_,rfl⟩;have HA1:=gi (show a1=lf - 1 by rw [ha1];exact IntWalk.wrap64_in (lf - 1) (by have:=HLH.o;omega));rw [←ha1];obtain ⟨V,hVe⟩:∃ V,V=X.setCell ⟨g,3,none⟩ (H J a1):=⟨_,rfl⟩;rw [←hVe];have hkV:Keeps [g] X V:=by rw [hVe];exact (Keeps.refl [g] X).setCell (p:=⟨g,3,none⟩) (.inl (by simp)) _
 have hrV:V.heap[g]? =some (.cells #[M la zs.length lc,H J at0,H J uses,H J a1,H J cp] 99 (0,0)):=by rw [hVe];exact heap_setCell_same _ g 3 _ _ _ HR.o
 have HMV:=gi (HMX.o.put hkV HCP.o.1 HCP.o.2 hrV);have HKV:=gi hkV;clear hVe hkV hrV ha1 c0 c1 c2 c3 c4 cf;go_wp2_with fail
 refine Calls.mono (next_any HMV.o 20 (by omega)) ?_;rintro e w2 ⟨k,hk0,hk20,rfl,hm2,hk2,_⟩;have HM2:=gi hm2;have HK2:=gi (HKV.o.trans hk2);clear hm2 hk2;go_upto_region 3 with fail
 go_cut [38] (fun s38 wx=> ∃ b:Bool,s38=F b∧(d=0→b=true)∧(b=false→3≤a1)∧Keeps [] w2 wx)
 case first=>
  obtain ⟨at1,cp1,h01,h11,hr1⟩:=HM2.o.row;obtain ⟨c0,c1,c2,c3,c4,cf⟩:=row5_cells hr1;clear hr1
  by_cases hd0:d=0
  ·subst hd0
   go_quiet (fail)
   go_wp2;go_meet;exact ⟨true,rfl,fun _=> rfl,(fun h=> by cases h),(Keeps.refl [] w2).drewN _⟩
  ·have hdI:((d:Int)==0)=false:=by simpa using hd0
   by_cases hl:a1 < 3
   ·go_quiet (fail)
    go_wp2;go_meet;exact ⟨true,rfl,fun _=> rfl,(fun h=> by cases h),(Keeps.refl [] w2).drewN _⟩
   ·by_cases ha:(zs.length:Int) < at1
    ·go_quiet (fail)
     go_wp2;go_meet;exact ⟨true,rfl,fun _=> rfl,(fun h=> by cases h),(Keeps.refl [] w2).drewN _⟩
    ·go_quiet (fail)
     go_wp2;go_meet;exact ⟨false,rfl,fun h=> absurd h hd0,fun _=> by omega,(Keeps.refl [] w2).drewN _⟩
 case rest=>
 obtain ⟨b,rfl,hb0,hb3,hkw⟩:=hcut;have HB3:=gi hb3;have HM3:=gi (HM2.o.keep hkw);have HK3:=gi (HK2.o.trans (hkw.mono (S':=[g]) (by simp)));have HB0:=gi hb0;clear hkw hb0 hb3;obtain ⟨w3,hw3⟩:∃ w3,w3=wc:=⟨_,rfl⟩;rw [←hw3] at HM3 HK3 ⊢;clear hw3;have HZ3:=gi (HK3.o.heap HZ.o (by simp;exact HBG.o));have HK30:=gi ((HKX.o.mono (S':=[g]) (by simp)).trans HK3.o)
 cases b with
 | true=>
  by_cases hk:k=0
  ·subst hk;have hz9:=HZ3.o;obtain ⟨z0,z1,z2,z3,z4,z5,z6,z7,zf⟩:=zero_cells hz9;obtain ⟨hR,hP⟩:=gen_node (bd:=bd) (op:=0) (n:=0) (neg:=false) (ka:=none) (kc:=0) (kids:=([]:List MRe)) (P:=Left lf d) (leaf_left HA1.o) HM.o HM3.o HK30.o HBE.o hz9 (KidsIn.nil _) (by simp [blockIf,MRe.blocksL]) (by constructor <;> first | omega | (intro h;omega) | simp) (by simp) (by simp) (by simp);have H1:=gi hR;have H2:=gi hP;clear hR hP hz9;go_wp2;refine rc H1.o ?_;exact H2.o
  ·have hkb:(k==0)=false:=by simpa using hk
   go_wp2_with fail
   refine Calls.mono (set_any HM3.o) ?_;rintro e w9 ⟨s,lf9,rfl,hso,hsm,hsk,hsf,hsw,hsb,hsp⟩;replace hsp:=Lone.left' (d:=d) HA1.o hsp;have HSP:=gi hsp;have HSO:=gi hso;have HSM:=gi hsm;have HSK:=gi (HK30.o.trans hsk);have HSF:=gi (show ∀ b∈s.blocks,w.heap.size≤b∧b≠B from fun b hb=> by
    have h1:=hsf b hb;have h2:=lt_of_block HZ3.o;have h3:=HBE.o
    omega)
   have HSW:=gi hsw;have HSB:=gi hsb;have hz9:=hsk.heap HZ3.o (by simp;exact HBG.o);obtain ⟨s0,hs0⟩:∃ s0,s0=s:=⟨_,rfl⟩;rw [←hs0] at HSO HSF HSW HSB HSP;have HS0:=gi hs0;obtain ⟨op3,sa3,sc3,set3,ka3,kc3,kids3,mn3,mx3,mode3,n3,neg3⟩:=s;simp only [MRe.val];obtain ⟨z0,z1,z2,z3,z4,z5,z6,z7,zf⟩:=zero_cells hz9;obtain ⟨hR,hok,hm,hk,hfr⟩:=gen_store HM.o HSM.o HSK.o (Nat.le_of_eq HBE.o.symm) hz9 (by have:=HSO.o;rw [HS0.o] at this;exact this) (by have:=HSF.o;rw [HS0.o] at this;exact this);have H1:=gi hR;have H2:=gi hok;have H3:=gi hm;have H4:=gi hk;have H5:=gi hfr;clear hR hok hm hk hfr hz9 hso hsm hsk hsf hsw hsb hs0 hsp;go_wp2;refine rc H1.o ?_;exact ⟨_,lf9,rfl,H2.o,H3.o,H4.o,H5.o,by have:=HSW.o;rw [HS0.o] at this;exact this,by have:=HSB.o;rw [HS0.o] at this;exact Nat.le_trans this (by omega),by have:=HSP.o;rw [HS0.o] at this;exact this⟩
 | false=>
  have H3A:=gi (HB3.o rfl);obtain ⟨d1,rfl⟩:∃ d1,d=d1 + 1:=⟨d - 1,by
   have h:=HB0.o
   cases d with
   | zero=> cases h rfl
   | succ n=> omega⟩
  have HT:=gi (HTH.o d1 rfl);have hd1:d1≤100:=by omega
  rw [show ((d1 + 1:Nat):Int)=(d1:Int) + 1 by omega];clear HTH HB0
  by_cases q5:k < 5
  ·go_wp2_with fail
   refine Calls.mono (kidsgen_any HT.o hd1 HM3.o (H3A.o) (by have:=HLH.o;have:=HA1.o;omega)) ?_;rintro e w9 ⟨a,c,ks,lf9,rfl,hl2,hl3,hki,hm,hk,ha,hks,hs1,hs2,hs3⟩;have HPK:=gi (And.intro hs1 (And.intro hs2 hs3));obtain ⟨ka,hka⟩:∃ ka:Option Addr,ka=a.map fun x=> ⟨x,0,none⟩:=⟨_,rfl⟩;simp only [sv_slice];rw [←hka] at hki ⊢;have HKI:=gi hki;have HM9:=gi hm;have HK9:=gi (HK30.o.trans hk);have hz9:=hk.heap HZ3.o (by simp;exact HBG.o);have HFR:=gi (show ∀ b∈blockIf ks.length ka ++ MRe.blocksL ks,B < b from fun b hb=> by
    have h2:=lt_of_block HZ3.o
    rcases List.mem_append.1 hb with h | h
    ·rw [hka] at h
     have:=(Fresh.blockIf_map ha) b h
     omega
    ·obtain ⟨y,hy,hqy⟩:=MRe.blocksL_mem h
     have:=(hks y hy).2.2 b hqy
     omega)
   have HKS:=gi hks;have HL2:=gi hl2;have HL3:=gi hl3;clear hki hm hk ha hks hka hl2 hl3 hs1 hs2 hs3;obtain ⟨z0,z1,z2,z3,z4,z5,z6,z7,zf⟩:=zero_cells hz9;obtain ⟨hR,hP⟩:=gen_node (bd:=bd) (op:=2) (n:=0) (neg:=false) (ka:=ka) (kc:=c) (kids:=ks) (P:=Left lf (d1 + 1)) (Inner.left' HA1.o (kids_inner HPK.o.1 HPK.o.2.1 HPK.o.2.2)) HM.o HM9.o HK9.o HBE.o hz9 HKI.o HFR.o (by have:=HL2.o;constructor <;> first | omega | (intro h;omega) | simp) (fun x hx=> (HKS.o x hx).1) (fun x hx=> (HKS.o x hx).2.1) HL3.o;have H1:=gi hR;have H2:=gi hP;clear hR hP hz9;go_wp2;refine rc H1.o ?_;exact H2.o
  ·by_cases q8:k < 8
   ·go_wp2_with fail
    refine Calls.mono (kidsgen_any HT.o hd1 HM3.o (H3A.o) (by have:=HLH.o;have:=HA1.o;omega)) ?_;rintro e w9 ⟨a,c,ks,lf9,rfl,hl2,hl3,hki,hm,hk,ha,hks,hs1,hs2,hs3⟩;have HPK:=gi (And.intro hs1 (And.intro hs2 hs3));obtain ⟨ka,hka⟩:∃ ka:Option Addr,ka=a.map fun x=> ⟨x,0,none⟩:=⟨_,rfl⟩;simp only [sv_slice];rw [←hka] at hki ⊢;have HKI:=gi hki;have HM9:=gi hm;have HK9:=gi (HK30.o.trans hk);have hz9:=hk.heap HZ3.o (by simp;exact HBG.o);have HFR:=gi (show ∀ b∈blockIf ks.length ka ++ MRe.blocksL ks,B < b from fun b hb=> by
     have h2:=lt_of_block HZ3.o
     rcases List.mem_append.1 hb with h | h
     ·rw [hka] at h
      have:=(Fresh.blockIf_map ha) b h
      omega
     ·obtain ⟨y,hy,hqy⟩:=MRe.blocksL_mem h
      have:=(hks y hy).2.2 b hqy
      omega)
    have HKS:=gi hks;have HL2:=gi hl2;have HL3:=gi hl3;clear hki hm hk ha hks hka hl2 hl3 hs1 hs2 hs3;obtain ⟨z0,z1,z2,z3,z4,z5,z6,z7,zf⟩:=zero_cells hz9;obtain ⟨hR,hP⟩:=gen_node (bd:=bd) (op:=3) (n:=0) (neg:=false) (ka:=ka) (kc:=c) (kids:=ks) (P:=Left lf (d1 + 1)) (Inner.left' HA1.o (kids_inner HPK.o.1 HPK.o.2.1 HPK.o.2.2)) HM.o HM9.o HK9.o HBE.o hz9 HKI.o HFR.o (by have:=HL2.o;constructor <;> first | omega | (intro h;omega) | simp) (fun x hx=> (HKS.o x hx).1) (fun x hx=> (HKS.o x hx).2.1) HL3.o;have H1:=gi hR;have H2:=gi hP;clear hR hP hz9;go_wp2;refine rc H1.o ?_;exact H2.o
   ·by_cases q12:k < 12
    ·go_wp2_with fail
     refine Calls.mono (rep_any HT.o hd1 hbd HM3.o (H3A.o) (by have:=HLH.o;have:=HA1.o;omega)) ?_;rintro e w9 ⟨s,lf9,rfl,hso,hsm,hsk,hsf,hsw,hsb,hsp⟩;replace hsp:=Inner.left' HA1.o hsp;have HSP:=gi hsp;have HSO:=gi hso;have HSM:=gi hsm;have HSK:=gi (HK30.o.trans hsk);have HSF:=gi (show ∀ b∈s.blocks,w.heap.size≤b∧b≠B from fun b hb=> by
      have h1:=hsf b hb;have h2:=lt_of_block HZ3.o;have h3:=HBE.o
      omega)
     have HSW:=gi hsw;have HSB:=gi hsb;have hz9:=hsk.heap HZ3.o (by simp;exact HBG.o);obtain ⟨s0,hs0⟩:∃ s0,s0=s:=⟨_,rfl⟩;rw [←hs0] at HSO HSF HSW HSB HSP;have HS0:=gi hs0;obtain ⟨op3,sa3,sc3,set3,ka3,kc3,kids3,mn3,mx3,mode3,n3,neg3⟩:=s;simp only [MRe.val];obtain ⟨z0,z1,z2,z3,z4,z5,z6,z7,zf⟩:=zero_cells hz9;obtain ⟨hR,hok,hm,hk,hfr⟩:=gen_store HM.o HSM.o HSK.o (Nat.le_of_eq HBE.o.symm) hz9 (by have:=HSO.o;rw [HS0.o] at this;exact this) (by have:=HSF.o;rw [HS0.o] at this;exact this);have H1:=gi hR;have H2:=gi hok;have H3:=gi hm;have H4:=gi hk;have H5:=gi hfr;clear hR hok hm hk hfr hz9 hso hsm hsk hsf hsw hsb hs0 hsp;go_wp2;refine rc H1.o ?_;exact ⟨_,lf9,rfl,H2.o,H3.o,H4.o,H5.o,by have:=HSW.o;rw [HS0.o] at this;exact this,by have:=HSB.o;rw [HS0.o] at this;exact Nat.le_trans this (by omega),by have:=HSP.o;rw [HS0.o] at this;exact this⟩
    ·obtain rfl | rfl | rfl | rfl | rfl | rfl | rfl | rfl:k=12∨k=13∨k=14∨k=15∨k=16∨k=17∨k=18∨k=19:=by omega
     ·obtain ⟨at1,cp1,h01,h11,hr1⟩:=HM3.o.row;obtain ⟨c0,c1,c2,c3,c4,cf⟩:=row5_cells hr1;clear hr1
      by_cases hu:0 < bits BinOp.and IntKind.i64 uses 64
      ·go_wp2_with fail
       refine Calls.mono (capture_any HT.o hd1 HM3.o (H3A.o) (by have:=HLH.o;have:=HA1.o;omega)) ?_;rintro e w9 ⟨s,lf9,rfl,hso,hsm,hsk,hsf,hsw,hsb,hsp⟩;replace hsp:=Inner.left' HA1.o hsp;have HSP:=gi hsp;have HSO:=gi hso;have HSM:=gi hsm;have HSK:=gi (HK30.o.trans hsk);have HSF:=gi (show ∀ b∈s.blocks,w.heap.size≤b∧b≠B from fun b hb=> by
        have h1:=hsf b hb;have h2:=lt_of_block HZ3.o;have h3:=HBE.o
        omega)
       have HSW:=gi hsw;have HSB:=gi hsb;have hz9:=hsk.heap HZ3.o (by simp;exact HBG.o);obtain ⟨s0,hs0⟩:∃ s0,s0=s:=⟨_,rfl⟩;rw [←hs0] at HSO HSF HSW HSB HSP;have HS0:=gi hs0;obtain ⟨op3,sa3,sc3,set3,ka3,kc3,kids3,mn3,mx3,mode3,n3,neg3⟩:=s;simp only [MRe.val];obtain ⟨z0,z1,z2,z3,z4,z5,z6,z7,zf⟩:=zero_cells hz9;obtain ⟨hR,hok,hm,hk,hfr⟩:=gen_store HM.o HSM.o HSK.o (Nat.le_of_eq HBE.o.symm) hz9 (by have:=HSO.o;rw [HS0.o] at this;exact this) (by have:=HSF.o;rw [HS0.o] at this;exact this);have H1:=gi hR;have H2:=gi hok;have H3:=gi hm;have H4:=gi hk;have H5:=gi hfr;clear hR hok hm hk hfr hz9 hso hsm hsk hsf hsw hsb hs0 hsp;go_wp2;refine rc H1.o ?_;exact ⟨_,lf9,rfl,H2.o,H3.o,H4.o,H5.o,by have:=HSW.o;rw [HS0.o] at this;exact this,by have:=HSB.o;rw [HS0.o] at this;exact Nat.le_trans this (by omega),by have:=HSP.o;rw [HS0.o] at this;exact this⟩
      ·go_wp2_with fail
       refine Calls.mono (set_any HM3.o) ?_;rintro e w9 ⟨s,lf9,rfl,hso,hsm,hsk,hsf,hsw,hsb,hsp⟩;replace hsp:=Lone.left' (d:=(d1 + 1)) HA1.o hsp;have HSP:=gi hsp;have HSO:=gi hso;have HSM:=gi hsm;have HSK:=gi (HK30.o.trans hsk);have HSF:=gi (show ∀ b∈s.blocks,w.heap.size≤b∧b≠B from fun b hb=> by
        have h1:=hsf b hb;have h2:=lt_of_block HZ3.o;have h3:=HBE.o
        omega)
       have HSW:=gi hsw;have HSB:=gi hsb;have hz9:=hsk.heap HZ3.o (by simp;exact HBG.o);obtain ⟨s0,hs0⟩:∃ s0,s0=s:=⟨_,rfl⟩;rw [←hs0] at HSO HSF HSW HSB HSP;have HS0:=gi hs0;obtain ⟨op3,sa3,sc3,set3,ka3,kc3,kids3,mn3,mx3,mode3,n3,neg3⟩:=s;simp only [MRe.val];obtain ⟨z0,z1,z2,z3,z4,z5,z6,z7,zf⟩:=zero_cells hz9;obtain ⟨hR,hok,hm,hk,hfr⟩:=gen_store HM.o HSM.o HSK.o (Nat.le_of_eq HBE.o.symm) hz9 (by have:=HSO.o;rw [HS0.o] at this;exact this) (by have:=HSF.o;rw [HS0.o] at this;exact this);have H1:=gi hR;have H2:=gi hok;have H3:=gi hm;have H4:=gi hk;have H5:=gi hfr;clear hR hok hm hk hfr hz9 hso hsm hsk hsf hsw hsb hs0 hsp;go_wp2;refine rc H1.o ?_;exact ⟨_,lf9,rfl,H2.o,H3.o,H4.o,H5.o,by have:=HSW.o;rw [HS0.o] at this;exact this,by have:=HSB.o;rw [HS0.o] at this;exact Nat.le_trans this (by omega),by have:=HSP.o;rw [HS0.o] at this;exact this⟩
     ·obtain ⟨at1,cp1,h01,h11,hr1⟩:=HM3.o.row;obtain ⟨c0,c1,c2,c3,c4,cf⟩:=row5_cells hr1;clear hr1
      by_cases hu:0 < bits BinOp.and IntKind.i64 uses 64
      ·go_wp2_with fail
       refine Calls.mono (capture_any HT.o hd1 HM3.o (H3A.o) (by have:=HLH.o;have:=HA1.o;omega)) ?_;rintro e w9 ⟨s,lf9,rfl,hso,hsm,hsk,hsf,hsw,hsb,hsp⟩;replace hsp:=Inner.left' HA1.o hsp;have HSP:=gi hsp;have HSO:=gi hso;have HSM:=gi hsm;have HSK:=gi (HK30.o.trans hsk);have HSF:=gi (show ∀ b∈s.blocks,w.heap.size≤b∧b≠B from fun b hb=> by
        have h1:=hsf b hb;have h2:=lt_of_block HZ3.o;have h3:=HBE.o
        omega)
       have HSW:=gi hsw;have HSB:=gi hsb;have hz9:=hsk.heap HZ3.o (by simp;exact HBG.o);obtain ⟨s0,hs0⟩:∃ s0,s0=s:=⟨_,rfl⟩;rw [←hs0] at HSO HSF HSW HSB HSP;have HS0:=gi hs0;obtain ⟨op3,sa3,sc3,set3,ka3,kc3,kids3,mn3,mx3,mode3,n3,neg3⟩:=s;simp only [MRe.val];obtain ⟨z0,z1,z2,z3,z4,z5,z6,z7,zf⟩:=zero_cells hz9;obtain ⟨hR,hok,hm,hk,hfr⟩:=gen_store HM.o HSM.o HSK.o (Nat.le_of_eq HBE.o.symm) hz9 (by have:=HSO.o;rw [HS0.o] at this;exact this) (by have:=HSF.o;rw [HS0.o] at this;exact this);have H1:=gi hR;have H2:=gi hok;have H3:=gi hm;have H4:=gi hk;have H5:=gi hfr;clear hR hok hm hk hfr hz9 hso hsm hsk hsf hsw hsb hs0 hsp;go_wp2;refine rc H1.o ?_;exact ⟨_,lf9,rfl,H2.o,H3.o,H4.o,H5.o,by have:=HSW.o;rw [HS0.o] at this;exact this,by have:=HSB.o;rw [HS0.o] at this;exact Nat.le_trans this (by omega),by have:=HSP.o;rw [HS0.o] at this;exact this⟩
      ·go_wp2_with fail
       refine Calls.mono (set_any HM3.o) ?_;rintro e w9 ⟨s,lf9,rfl,hso,hsm,hsk,hsf,hsw,hsb,hsp⟩;replace hsp:=Lone.left' (d:=(d1 + 1)) HA1.o hsp;have HSP:=gi hsp;have HSO:=gi hso;have HSM:=gi hsm;have HSK:=gi (HK30.o.trans hsk);have HSF:=gi (show ∀ b∈s.blocks,w.heap.size≤b∧b≠B from fun b hb=> by
        have h1:=hsf b hb;have h2:=lt_of_block HZ3.o;have h3:=HBE.o
        omega)
       have HSW:=gi hsw;have HSB:=gi hsb;have hz9:=hsk.heap HZ3.o (by simp;exact HBG.o);obtain ⟨s0,hs0⟩:∃ s0,s0=s:=⟨_,rfl⟩;rw [←hs0] at HSO HSF HSW HSB HSP;have HS0:=gi hs0;obtain ⟨op3,sa3,sc3,set3,ka3,kc3,kids3,mn3,mx3,mode3,n3,neg3⟩:=s;simp only [MRe.val];obtain ⟨z0,z1,z2,z3,z4,z5,z6,z7,zf⟩:=zero_cells hz9;obtain ⟨hR,hok,hm,hk,hfr⟩:=gen_store HM.o HSM.o HSK.o (Nat.le_of_eq HBE.o.symm) hz9 (by have:=HSO.o;rw [HS0.o] at this;exact this) (by have:=HSF.o;rw [HS0.o] at this;exact this);have H1:=gi hR;have H2:=gi hok;have H3:=gi hm;have H4:=gi hk;have H5:=gi hfr;clear hR hok hm hk hfr hz9 hso hsm hsk hsf hsw hsb hs0 hsp;go_wp2;refine rc H1.o ?_;exact ⟨_,lf9,rfl,H2.o,H3.o,H4.o,H5.o,by have:=HSW.o;rw [HS0.o] at this;exact this,by have:=HSB.o;rw [HS0.o] at this;exact Nat.le_trans this (by omega),by have:=HSP.o;rw [HS0.o] at this;exact this⟩
     ·obtain ⟨at1,cp1,h01,h11,hr1⟩:=HM3.o.row;obtain ⟨c0,c1,c2,c3,c4,cf⟩:=row5_cells hr1;clear hr1
      by_cases hu:0 < bits BinOp.and IntKind.i64 uses 16
      ·go_wp2_with fail
       refine Calls.mono (next_any HM3.o 6 (by omega)) ?_;rintro e w4 ⟨x,hx0,hx1,rfl,hm4,hk4,hc4⟩;have HM4:=gi hm4;have HK4:=gi (HK30.o.trans hk4);have HZ4:=gi (hk4.heap HZ3.o (by simp;exact HBG.o));clear hm4 hk4 hc4;have hz9:=HZ4.o;obtain ⟨z0,z1,z2,z3,z4,z5,z6,z7,zf⟩:=zero_cells hz9;obtain ⟨hR,hP⟩:=gen_node (bd:=bd) (op:=11) (n:=x) (neg:=false) (ka:=none) (kc:=0) (kids:=([]:List MRe)) (P:=Left lf (d1 + 1)) (leaf_left HA1.o) HM.o HM4.o HK4.o HBE.o hz9 (KidsIn.nil _) (by simp [blockIf,MRe.blocksL]) (by show NodeOK _ [] 0 0 0 0 _ _;constructor <;> first | omega | (intro h;omega) | simp) (by simp) (by simp) (by simp);have H1:=gi hR;have H2:=gi hP;clear hR hP hz9;go_wp2;refine rc H1.o ?_;exact H2.o
      ·go_wp2_with fail
       refine Calls.mono (set_any HM3.o) ?_;rintro e w9 ⟨s,lf9,rfl,hso,hsm,hsk,hsf,hsw,hsb,hsp⟩;replace hsp:=Lone.left' (d:=(d1 + 1)) HA1.o hsp;have HSP:=gi hsp;have HSO:=gi hso;have HSM:=gi hsm;have HSK:=gi (HK30.o.trans hsk);have HSF:=gi (show ∀ b∈s.blocks,w.heap.size≤b∧b≠B from fun b hb=> by
        have h1:=hsf b hb;have h2:=lt_of_block HZ3.o;have h3:=HBE.o
        omega)
       have HSW:=gi hsw;have HSB:=gi hsb;have hz9:=hsk.heap HZ3.o (by simp;exact HBG.o);obtain ⟨s0,hs0⟩:∃ s0,s0=s:=⟨_,rfl⟩;rw [←hs0] at HSO HSF HSW HSB HSP;have HS0:=gi hs0;obtain ⟨op3,sa3,sc3,set3,ka3,kc3,kids3,mn3,mx3,mode3,n3,neg3⟩:=s;simp only [MRe.val];obtain ⟨z0,z1,z2,z3,z4,z5,z6,z7,zf⟩:=zero_cells hz9;obtain ⟨hR,hok,hm,hk,hfr⟩:=gen_store HM.o HSM.o HSK.o (Nat.le_of_eq HBE.o.symm) hz9 (by have:=HSO.o;rw [HS0.o] at this;exact this) (by have:=HSF.o;rw [HS0.o] at this;exact this);have H1:=gi hR;have H2:=gi hok;have H3:=gi hm;have H4:=gi hk;have H5:=gi hfr;clear hR hok hm hk hfr hz9 hso hsm hsk hsf hsw hsb hs0 hsp;go_wp2;refine rc H1.o ?_;exact ⟨_,lf9,rfl,H2.o,H3.o,H4.o,H5.o,by have:=HSW.o;rw [HS0.o] at this;exact this,by have:=HSB.o;rw [HS0.o] at this;exact Nat.le_trans this (by omega),by have:=HSP.o;rw [HS0.o] at this;exact this⟩
     ·obtain ⟨at1,cp1,h01,h11,hr1⟩:=HM3.o.row;obtain ⟨c0,c1,c2,c3,c4,cf⟩:=row5_cells hr1;clear hr1
      by_cases hu:0 < bits BinOp.and IntKind.i64 uses 4
      ·go_wp2_with fail
       refine Calls.mono (next_any HM3.o 3 (by omega)) ?_;rintro e w4 ⟨x,x0,x1,rfl,hm4,hk4,hc4⟩;have HM4:=gi hm4;have HK4:=gi (HK30.o.trans hk4);have HZ4:=gi (hk4.heap HZ3.o (by simp;exact HBG.o));clear hm4 hk4 hc4;obtain ⟨q,hq⟩:∃ q:Bool,(x==0)=q:=⟨_,rfl⟩;go_wp2_with fail
       refine Calls.mono (next_any HM4.o 2 (by omega)) ?_;rintro e w8 ⟨y,y0,y1,rfl,hm4,hk4,hc4⟩;have HM8:=gi hm4;have HK8:=gi (HK4.o.trans hk4);have HZ8:=gi (hk4.heap HZ4.o (by simp;exact HBG.o));clear hm4 hk4 hc4;go_wp2_with fail
       refine Calls.mono (HT.o _ g la lc zs uses a1 HM8.o (by have:=HLH.o;have:=HA1.o;have:=H3A.o;omega) (by have:=HLH.o;have:=HA1.o;omega)) ?_;rintro e w5 ⟨m',lf5,rfl,ho5,hm5,hk5,hf5,hwf,hbd5,hp5⟩;have HP5:=gi hp5;have HO5:=gi ho5;have HM5:=gi hm5;have HK5:=gi (HK8.o.trans hk5);have HF5:=gi (show ∀ b∈m'.blocks,B < b from fun b hb=> by have:=hf5 b hb;have:=lt_of_block HZ8.o;omega);have HWF:=gi hwf;have HBD:=gi hbd5;have HZ5:=gi (hk5.heap HZ8.o (by simp;exact HBG.o));obtain ⟨m0,hm0⟩:∃ m0,m0=m':=⟨_,rfl⟩;rw [←hm0] at HO5 HF5 HWF HBD HP5;have HM0:=gi hm0;obtain ⟨op2,sa2,sc2,set2,ka2,kc2,kids2,mn2,mx2,mode2,n2,neg2⟩:=m';simp only [MRe.val];clear ho5 hm5 hk5 hf5 hwf hbd5 hm0 hp5;have hz9:=(Keeps.a1 w5 (.cells #[H J op2,M sa2 set2.length sc2,M ka2 kids2.length kc2,H J mn2,H J mx2,H J mode2,H J n2,F neg2] 26)).h HZ5.o;obtain ⟨z0,z1,z2,z3,z4,z5,z6,z7,zf⟩:=zero_cells hz9;obtain ⟨hR,hP⟩:=gen_node (bd:=bd) (op:=7 + y) (n:=0) (neg:=q) (ka:=some ⟨w5.heap.size,0,none⟩) (kc:=1) (kids:=[m0]) (P:=Left lf (d1 + 1)) (Inner.left' HA1.o (one_inner (H3A.o) HP5.o)) HM.o (HM5.o.keep (Keeps.a1 w5 (.cells #[H J op2,M sa2 set2.length sc2,M ka2 kids2.length kc2,H J mn2,H J mx2,H J mode2,H J n2,F neg2] 26))) (HK5.o.alloc _) HBE.o hz9 (lone_gen HO5.o _ (by rw [HM0.o];rfl)) (fun b hb=> by
        rcases List.mem_append.1 hb with h | h
        ·simp [blockIf] at h;subst h;exact lt_of_block HZ5.o
        ·simp only [MRe.blocksL,List.mem_append,List.not_mem_nil,or_false] at h;exact HF5.o b h) (by show NodeOK _ [] 1 0 0 0 _ _;constructor <;> first | omega | (intro h;omega) | simp) (fun x hx=> by simp only [List.mem_cons,List.not_mem_nil,or_false] at hx;subst hx;exact HWF.o) (fun x hx=> by simp only [List.mem_cons,List.not_mem_nil,or_false] at hx;subst hx;exact HBD.o) (by simp)
       have H1:=gi hR;have H2:=gi hP;clear hR hP hz9;go_wp2;refine rc H1.o ?_;exact H2.o
      ·go_wp2_with fail
       refine Calls.mono (set_any HM3.o) ?_;rintro e w9 ⟨s,lf9,rfl,hso,hsm,hsk,hsf,hsw,hsb,hsp⟩;replace hsp:=Lone.left' (d:=(d1 + 1)) HA1.o hsp;have HSP:=gi hsp;have HSO:=gi hso;have HSM:=gi hsm;have HSK:=gi (HK30.o.trans hsk);have HSF:=gi (show ∀ b∈s.blocks,w.heap.size≤b∧b≠B from fun b hb=> by
        have h1:=hsf b hb;have h2:=lt_of_block HZ3.o;have h3:=HBE.o
        omega)
       have HSW:=gi hsw;have HSB:=gi hsb;have hz9:=hsk.heap HZ3.o (by simp;exact HBG.o);obtain ⟨s0,hs0⟩:∃ s0,s0=s:=⟨_,rfl⟩;rw [←hs0] at HSO HSF HSW HSB HSP;have HS0:=gi hs0;obtain ⟨op3,sa3,sc3,set3,ka3,kc3,kids3,mn3,mx3,mode3,n3,neg3⟩:=s;simp only [MRe.val];obtain ⟨z0,z1,z2,z3,z4,z5,z6,z7,zf⟩:=zero_cells hz9;obtain ⟨hR,hok,hm,hk,hfr⟩:=gen_store HM.o HSM.o HSK.o (Nat.le_of_eq HBE.o.symm) hz9 (by have:=HSO.o;rw [HS0.o] at this;exact this) (by have:=HSF.o;rw [HS0.o] at this;exact this);have H1:=gi hR;have H2:=gi hok;have H3:=gi hm;have H4:=gi hk;have H5:=gi hfr;clear hR hok hm hk hfr hz9 hso hsm hsk hsf hsw hsb hs0 hsp;go_wp2;refine rc H1.o ?_;exact ⟨_,lf9,rfl,H2.o,H3.o,H4.o,H5.o,by have:=HSW.o;rw [HS0.o] at this;exact this,by have:=HSB.o;rw [HS0.o] at this;exact Nat.le_trans this (by omega),by have:=HSP.o;rw [HS0.o] at this;exact this⟩
     ·obtain ⟨at1,cp1,h01,h11,hr1⟩:=HM3.o.row;obtain ⟨c0,c1,c2,c3,c4,cf⟩:=row5_cells hr1;clear hr1
      by_cases hu:0 < bits BinOp.and IntKind.i64 uses 8
      ·go_wp2_with fail
       refine Calls.mono (HT.o _ g la lc zs uses a1 HM3.o (by have:=HLH.o;have:=HA1.o;have:=H3A.o;omega) (by have:=HLH.o;have:=HA1.o;omega)) ?_;rintro e w5 ⟨m',lf5,rfl,ho5,hm5,hk5,hf5,hwf,hbd5,hp5⟩;have HP5:=gi hp5;have HO5:=gi ho5;have HM5:=gi hm5;have HK5:=gi (HK30.o.trans hk5);have HF5:=gi (show ∀ b∈m'.blocks,B < b from fun b hb=> by have:=hf5 b hb;have:=lt_of_block HZ3.o;omega);have HWF:=gi hwf;have HBD:=gi hbd5;have HZ5:=gi (hk5.heap HZ3.o (by simp;exact HBG.o));obtain ⟨m0,hm0⟩:∃ m0,m0=m':=⟨_,rfl⟩;rw [←hm0] at HO5 HF5 HWF HBD HP5;have HM0:=gi hm0;obtain ⟨op2,sa2,sc2,set2,ka2,kc2,kids2,mn2,mx2,mode2,n2,neg2⟩:=m';simp only [MRe.val];clear ho5 hm5 hk5 hf5 hwf hbd5 hm0 hp5;have hz9:=(Keeps.a1 w5 (.cells #[H J op2,M sa2 set2.length sc2,M ka2 kids2.length kc2,H J mn2,H J mx2,H J mode2,H J n2,F neg2] 26)).h HZ5.o;obtain ⟨z0,z1,z2,z3,z4,z5,z6,z7,zf⟩:=zero_cells hz9;obtain ⟨hR,hP⟩:=gen_node (bd:=bd) (op:=9) (n:=0) (neg:=false) (ka:=some ⟨w5.heap.size,0,none⟩) (kc:=1) (kids:=[m0]) (P:=Left lf (d1 + 1)) (Inner.left' HA1.o (one_inner (H3A.o) HP5.o)) HM.o (HM5.o.keep (Keeps.a1 w5 (.cells #[H J op2,M sa2 set2.length sc2,M ka2 kids2.length kc2,H J mn2,H J mx2,H J mode2,H J n2,F neg2] 26))) (HK5.o.alloc _) HBE.o hz9 (lone_gen HO5.o _ (by rw [HM0.o];rfl)) (fun b hb=> by
        rcases List.mem_append.1 hb with h | h
        ·simp [blockIf] at h;subst h;exact lt_of_block HZ5.o
        ·simp only [MRe.blocksL,List.mem_append,List.not_mem_nil,or_false] at h;exact HF5.o b h) (by show NodeOK _ [] 1 0 0 0 _ _;constructor <;> first | omega | (intro h;omega) | simp) (fun x hx=> by simp only [List.mem_cons,List.not_mem_nil,or_false] at hx;subst hx;exact HWF.o) (fun x hx=> by simp only [List.mem_cons,List.not_mem_nil,or_false] at hx;subst hx;exact HBD.o) (by simp)
       have H1:=gi hR;have H2:=gi hP;clear hR hP hz9;go_wp2;refine rc H1.o ?_;exact H2.o
      ·go_wp2_with fail
       refine Calls.mono (set_any HM3.o) ?_;rintro e w9 ⟨s,lf9,rfl,hso,hsm,hsk,hsf,hsw,hsb,hsp⟩;replace hsp:=Lone.left' (d:=(d1 + 1)) HA1.o hsp;have HSP:=gi hsp;have HSO:=gi hso;have HSM:=gi hsm;have HSK:=gi (HK30.o.trans hsk);have HSF:=gi (show ∀ b∈s.blocks,w.heap.size≤b∧b≠B from fun b hb=> by
        have h1:=hsf b hb;have h2:=lt_of_block HZ3.o;have h3:=HBE.o
        omega)
       have HSW:=gi hsw;have HSB:=gi hsb;have hz9:=hsk.heap HZ3.o (by simp;exact HBG.o);obtain ⟨s0,hs0⟩:∃ s0,s0=s:=⟨_,rfl⟩;rw [←hs0] at HSO HSF HSW HSB HSP;have HS0:=gi hs0;obtain ⟨op3,sa3,sc3,set3,ka3,kc3,kids3,mn3,mx3,mode3,n3,neg3⟩:=s;simp only [MRe.val];obtain ⟨z0,z1,z2,z3,z4,z5,z6,z7,zf⟩:=zero_cells hz9;obtain ⟨hR,hok,hm,hk,hfr⟩:=gen_store HM.o HSM.o HSK.o (Nat.le_of_eq HBE.o.symm) hz9 (by have:=HSO.o;rw [HS0.o] at this;exact this) (by have:=HSF.o;rw [HS0.o] at this;exact this);have H1:=gi hR;have H2:=gi hok;have H3:=gi hm;have H4:=gi hk;have H5:=gi hfr;clear hR hok hm hk hfr hz9 hso hsm hsk hsf hsw hsb hs0 hsp;go_wp2;refine rc H1.o ?_;exact ⟨_,lf9,rfl,H2.o,H3.o,H4.o,H5.o,by have:=HSW.o;rw [HS0.o] at this;exact this,by have:=HSB.o;rw [HS0.o] at this;exact Nat.le_trans this (by omega),by have:=HSP.o;rw [HS0.o] at this;exact this⟩
     ·obtain ⟨at1,cp1,h01,h11,hr1⟩:=HM3.o.row;obtain ⟨c0,c1,c2,c3,c4,cf⟩:=row5_cells hr1;clear hr1
      by_cases hu:0 < bits BinOp.and IntKind.i64 uses 1
      ·by_cases hc:0 < cp1
       ·go_wp2_with fail
        refine Calls.mono (next_any HM3.o cp1 (by omega)) ?_;rintro e w4 ⟨x,x0,x1,rfl,hm4,hk4,hc4⟩;have HM4:=gi hm4;have HK4:=gi (HK30.o.trans hk4);have HZ4:=gi (hk4.heap HZ3.o (by simp;exact HBG.o));clear hm4 hk4 hc4;have hz9:=HZ4.o;obtain ⟨z0,z1,z2,z3,z4,z5,z6,z7,zf⟩:=zero_cells hz9;obtain ⟨hR,hP⟩:=gen_node (bd:=bd) (op:=6) (n:=1 + x) (neg:=false) (ka:=none) (kc:=0) (kids:=([]:List MRe)) (P:=Left lf (d1 + 1)) (leaf_left HA1.o) HM.o HM4.o HK4.o HBE.o hz9 (KidsIn.nil _) (by simp [blockIf,MRe.blocksL]) (by show NodeOK _ [] 0 0 0 0 _ _;constructor <;> first | omega | (intro h;omega) | simp) (by simp) (by simp) (by simp);have H1:=gi hR;have H2:=gi hP;clear hR hP hz9;go_wp2;refine rc H1.o ?_;exact H2.o
       ·go_wp2_with fail
        refine Calls.mono (set_any HM3.o) ?_;rintro e w9 ⟨s,lf9,rfl,hso,hsm,hsk,hsf,hsw,hsb,hsp⟩;replace hsp:=Lone.left' (d:=(d1 + 1)) HA1.o hsp;have HSP:=gi hsp;have HSO:=gi hso;have HSM:=gi hsm;have HSK:=gi (HK30.o.trans hsk);have HSF:=gi (show ∀ b∈s.blocks,w.heap.size≤b∧b≠B from fun b hb=> by
         have h1:=hsf b hb;have h2:=lt_of_block HZ3.o;have h3:=HBE.o
         omega)
        have HSW:=gi hsw;have HSB:=gi hsb;have hz9:=hsk.heap HZ3.o (by simp;exact HBG.o);obtain ⟨s0,hs0⟩:∃ s0,s0=s:=⟨_,rfl⟩;rw [←hs0] at HSO HSF HSW HSB HSP;have HS0:=gi hs0;obtain ⟨op3,sa3,sc3,set3,ka3,kc3,kids3,mn3,mx3,mode3,n3,neg3⟩:=s;simp only [MRe.val];obtain ⟨z0,z1,z2,z3,z4,z5,z6,z7,zf⟩:=zero_cells hz9;obtain ⟨hR,hok,hm,hk,hfr⟩:=gen_store HM.o HSM.o HSK.o (Nat.le_of_eq HBE.o.symm) hz9 (by have:=HSO.o;rw [HS0.o] at this;exact this) (by have:=HSF.o;rw [HS0.o] at this;exact this);have H1:=gi hR;have H2:=gi hok;have H3:=gi hm;have H4:=gi hk;have H5:=gi hfr;clear hR hok hm hk hfr hz9 hso hsm hsk hsf hsw hsb hs0 hsp;go_wp2;refine rc H1.o ?_;exact ⟨_,lf9,rfl,H2.o,H3.o,H4.o,H5.o,by have:=HSW.o;rw [HS0.o] at this;exact this,by have:=HSB.o;rw [HS0.o] at this;exact Nat.le_trans this (by omega),by have:=HSP.o;rw [HS0.o] at this;exact this⟩
      ·go_wp2_with fail
       refine Calls.mono (set_any HM3.o) ?_;rintro e w9 ⟨s,lf9,rfl,hso,hsm,hsk,hsf,hsw,hsb,hsp⟩;replace hsp:=Lone.left' (d:=(d1 + 1)) HA1.o hsp;have HSP:=gi hsp;have HSO:=gi hso;have HSM:=gi hsm;have HSK:=gi (HK30.o.trans hsk);have HSF:=gi (show ∀ b∈s.blocks,w.heap.size≤b∧b≠B from fun b hb=> by
        have h1:=hsf b hb;have h2:=lt_of_block HZ3.o;have h3:=HBE.o
        omega)
       have HSW:=gi hsw;have HSB:=gi hsb;have hz9:=hsk.heap HZ3.o (by simp;exact HBG.o);obtain ⟨s0,hs0⟩:∃ s0,s0=s:=⟨_,rfl⟩;rw [←hs0] at HSO HSF HSW HSB HSP;have HS0:=gi hs0;obtain ⟨op3,sa3,sc3,set3,ka3,kc3,kids3,mn3,mx3,mode3,n3,neg3⟩:=s;simp only [MRe.val];obtain ⟨z0,z1,z2,z3,z4,z5,z6,z7,zf⟩:=zero_cells hz9;obtain ⟨hR,hok,hm,hk,hfr⟩:=gen_store HM.o HSM.o HSK.o (Nat.le_of_eq HBE.o.symm) hz9 (by have:=HSO.o;rw [HS0.o] at this;exact this) (by have:=HSF.o;rw [HS0.o] at this;exact this);have H1:=gi hR;have H2:=gi hok;have H3:=gi hm;have H4:=gi hk;have H5:=gi hfr;clear hR hok hm hk hfr hz9 hso hsm hsk hsf hsw hsb hs0 hsp;go_wp2;refine rc H1.o ?_;exact ⟨_,lf9,rfl,H2.o,H3.o,H4.o,H5.o,by have:=HSW.o;rw [HS0.o] at this;exact this,by have:=HSB.o;rw [HS0.o] at this;exact Nat.le_trans this (by omega),by have:=HSP.o;rw [HS0.o] at this;exact this⟩
     ·obtain ⟨at1,cp1,h01,h11,hr1⟩:=HM3.o.row;obtain ⟨c0,c1,c2,c3,c4,cf⟩:=row5_cells hr1;clear hr1
      by_cases hu:0 < bits BinOp.and IntKind.i64 uses 2
      ·by_cases hc:0 < cp1
       ·go_wp2_with fail
        refine Calls.mono (next_any HM3.o cp1 (by omega)) ?_;rintro e w4 ⟨x,x0,x1,rfl,hm4,hk4,hc4⟩;have HM4:=gi hm4;have HK4:=gi (HK30.o.trans hk4);have HZ4:=gi (hk4.heap HZ3.o (by simp;exact HBG.o));clear hm4 hk4 hc4;go_wp2_with fail
        refine Calls.mono (HT.o _ g la lc zs uses a1 HM4.o (by have:=HLH.o;have:=HA1.o;have:=H3A.o;omega) (by have:=HLH.o;have:=HA1.o;omega)) ?_;rintro e w5 ⟨m',lf5,rfl,ho5,hm5,hk5,hf5,hwf,hbd5,hp5⟩;have HP5:=gi hp5;have HO5:=gi ho5;have HM5:=gi hm5;have HK5:=gi (HK4.o.trans hk5);have HF5:=gi (show ∀ b∈m'.blocks,B < b from fun b hb=> by have:=hf5 b hb;have:=lt_of_block HZ4.o;omega);have HWF:=gi hwf;have HBD:=gi hbd5;have HZ5:=gi (hk5.heap HZ4.o (by simp;exact HBG.o));obtain ⟨m0,hm0⟩:∃ m0,m0=m':=⟨_,rfl⟩;rw [←hm0] at HO5 HF5 HWF HBD HP5;have HM0:=gi hm0;obtain ⟨op2,sa2,sc2,set2,ka2,kc2,kids2,mn2,mx2,mode2,n2,neg2⟩:=m';simp only [MRe.val];clear ho5 hm5 hk5 hf5 hwf hbd5 hm0 hp5;go_upto_region 29 with fail
        obtain ⟨W6,hW6⟩:∃ W6,W6=w5.alloc (.cells #[H J op2,M sa2 set2.length sc2,M ka2 kids2.length kc2,H J mn2,H J mx2,H J mode2,H J n2,F neg2] 26):=⟨_,rfl⟩;have hk6:Keeps [] w5 W6:=by rw [hW6];exact Keeps.a1 _ _
        have hL:W6.heap[w5.heap.size]? =some (.cells #[H J op2,M sa2 set2.length sc2,M ka2 kids2.length kc2,H J mn2,H J mx2,H J mode2,H J n2,F neg2] 26 (0,0)):=by rw [hW6];exact heap_alloc_new w5 _
        rw [←hW6];obtain ⟨L,hLe⟩:∃ L,L=w5.heap.size:=⟨_,rfl⟩;rw [←hLe] at hL ⊢;obtain ⟨y0,y1,y2,y3,y4,y5,y6,y7⟩:=row_cells hL;have HLG:=gi (show L≠g by have:=HM5.o.lt;omega);have HLB:=gi (show L≠B by have:=lt_of_block HZ5.o;omega);have HM6:=gi (HM5.o.keep hk6);have HK6:=gi (HK5.o.trans (hk6.mono (S':=[g]) (by simp)));have HZ6:=gi (hk6.h HZ5.o);have HO6:=gi (HO5.o.keep hk6);clear hW6 hk6 hL hLe;have hdd:IntKind.i64.wrap (d1:Int)=(d1:Int):=IntWalk.i64_in _ (by omega);refine rg (S:=fun w'=> w'.cell? ⟨L,0,none⟩=some (H J op2)∧w'.cell? ⟨L,1,none⟩=some (M sa2 set2.length sc2)∧w'.cell? ⟨L,2,none⟩=some (M ka2 kids2.length kc2)∧w'.cell? ⟨L,3,none⟩=some (H J mn2)∧w'.cell? ⟨L,4,none⟩=some (H J mx2)∧w'.cell? ⟨L,5,none⟩=some (H J mode2)∧w'.cell? ⟨L,6,none⟩=some (H J n2)∧w'.cell? ⟨L,7,none⟩=some (F neg2)) (fun _ k=> ⟨k.c y0,k.c y1,k.c y2,k.c y3,k.c y4,k.c y5,k.c y6,k.c y7⟩) fun kz hHeld=> ?_;refine tk 0 ?_;refine tk 1 ?_;refine tk 2 ?_;refine tk 3 ?_;refine tk 4 ?_;refine j6 5 fun K hK=> ?_;go_simp;have hl5:=HP5.o;have hl5b:=lf_bound hl5 (H3A.o) (by have:=HLH.o;have:=HA1.o;omega) hd1;refine Calls.mono (HT.o _ g la lc zs uses lf5 (HM6.o.keep (Keeps.refl [] _).drew) hl5b.1 hl5b.2) ?_;rintro e w7 ⟨m',lf7,rfl,ho7,hm7,hk7',hf7,hwf7,hbd7,hp7⟩;have HP7:=gi hp7;have hk7:Keeps [g] W6 w7:=((Keeps.refl [g] W6).drew).trans hk7';have HO7:=gi ho7;have HM7:=gi hm7;have HE7:=gi hk7;have HK7:=gi (HK6.o.trans hk7);have HF7:=gi (show ∀ b∈m'.blocks,B < b from fun b hb=> by have:W6.heap.size≤b:=hf7 b hb;have:=lt_of_block HZ6.o;omega);have HWF7:=gi hwf7;have HBD7:=gi hbd7;have HZ7:=gi (hk7.heap HZ6.o (by simp;exact HBG.o));obtain ⟨m1,hm1⟩:∃ m1,m1=m':=⟨_,rfl⟩;rw [←hm1] at HO7 HF7 HWF7 HBD7 HP7;have HM1:=gi hm1;obtain ⟨op4,sa4,sc4,set4,ka4,kc4,kids4,mn4,mx4,mode4,n4,neg4⟩:=m';simp only [MRe.val];have HO67:=gi (HO6.o.keepS hk7 fun b hb=> by have:=HF5.o b hb;have h2:=HGL.o;have h3:=HBE.o;simp;omega);clear ho7 hm7 hf7 hwf7 hbd7 hm1 hk7 hk7' hp7 hl5 hl5b;refine hK.out _ _ (⟨HE7.o.cell y0 (by simp;exact HLG.o),HE7.o.cell y1 (by simp;exact HLG.o),HE7.o.cell y2 (by simp;exact HLG.o),HE7.o.cell y3 (by simp;exact HLG.o),HE7.o.cell y4 (by simp;exact HLG.o),HE7.o.cell y5 (by simp;exact HLG.o),HE7.o.cell y6 (by simp;exact HLG.o),HE7.o.cell y7 (by simp;exact HLG.o)⟩) (fun hHeld=> ?_);clear hK K;try go_frame
        refine j6 6 fun K hK=> ?_;go_simp;have KA:=gi (Keeps.a1 w7 (.cells #[H J op2,M sa2 set2.length sc2,M ka2 kids2.length kc2,H J mn2,H J mx2,H J mode2,H J n2,F neg2,H J op4,M sa4 set4.length sc4,M ka4 kids4.length kc4,H J mn4,H J mx4,H J mode4,H J n4,F neg4] 26));refine hK.out _ _ (⟨KA.o.cell (HE7.o.cell y0 (by simp;exact HLG.o)) (by simp),KA.o.cell (HE7.o.cell y1 (by simp;exact HLG.o)) (by simp),KA.o.cell (HE7.o.cell y2 (by simp;exact HLG.o)) (by simp),KA.o.cell (HE7.o.cell y3 (by simp;exact HLG.o)) (by simp),KA.o.cell (HE7.o.cell y4 (by simp;exact HLG.o)) (by simp),KA.o.cell (HE7.o.cell y5 (by simp;exact HLG.o)) (by simp),KA.o.cell (HE7.o.cell y6 (by simp;exact HLG.o)) (by simp),KA.o.cell (HE7.o.cell y7 (by simp;exact HLG.o)) (by simp)⟩) (fun hHeld=> ?_);clear hK K;try go_frame
        refine tk 7 ?_;have hz9:=KA.o.h HZ7.o;have hGA:=heap_alloc_new w7 (.cells #[H J op2,M sa2 set2.length sc2,M ka2 kids2.length kc2,H J mn2,H J mx2,H J mode2,H J n2,F neg2,H J op4,M sa4 set4.length sc4,M ka4 kids4.length kc4,H J mn4,H J mx4,H J mode4,H J n4,F neg4] 26);obtain ⟨z0,z1,z2,z3,z4,z5,z6,z7,zf⟩:=zero_cells hz9;obtain ⟨hR,hP⟩:=gen_node (bd:=bd) (op:=10) (n:=1 + x) (neg:=false) (ka:=some ⟨w7.heap.size,0,none⟩) (kc:=2) (kids:=[m0,m1]) (P:=Left lf (d1 + 1)) (Inner.left' HA1.o (two_inner (H3A.o) HP5.o HP7.o)) HM.o (HM7.o.keep KA.o) (HK7.o.alloc _) HBE.o hz9 ⟨NodesIn.of_block (kids:=[m0,m1]) hGA (by rw [HM0.o,HM1.o];simp [flatK,MRe.row]) (by simp [maxLen]),fun z hz=> by
         simp only [List.mem_cons,List.not_mem_nil,or_false] at hz
         rcases hz with rfl | rfl
         ·exact HO67.o.keep KA.o
         ·exact HO7.o.keep KA.o⟩ (fun b hb=> by
         rcases List.mem_append.1 hb with h | h
         ·simp [blockIf] at h;subst h;exact lt_of_block HZ7.o
         ·simp only [MRe.blocksL,List.mem_append,List.not_mem_nil,or_false] at h
          rcases h with h | h
          ·exact HF5.o b h
          ·exact HF7.o b h) (by show NodeOK _ [] 2 0 0 0 _ _;constructor <;> first | omega | (intro h;omega) | simp) (fun z hz=> by
         simp only [List.mem_cons,List.not_mem_nil,or_false] at hz
         rcases hz with rfl | rfl
         ·exact HWF.o
         ·exact HWF7.o) (fun z hz=> by
         simp only [List.mem_cons,List.not_mem_nil,or_false] at hz
         rcases hz with rfl | rfl
         ·exact HBD.o
         ·exact HBD7.o) (by simp)
        have H1:=gi hR;have H2:=gi hP;have KS:=gi (set8_keeps (w7.alloc (.cells #[H J op2,M sa2 set2.length sc2,M ka2 kids2.length kc2,H J mn2,H J mx2,H J mode2,H J n2,F neg2,H J op4,M sa4 set4.length sc4,M ka4 kids4.length kc4,H J mn4,H J mx4,H J mode4,H J n4,F neg4] 26)) B (H J 10) (M none 0 0) (M (some ⟨w7.heap.size,0,none⟩) 2 2) (H J 0) (H J 0) (H J 0) (H J (1 + x)) (F false));clear hR hP hz9 hGA;refine j6 8 fun K hK=> ?_;go_simp;refine hK.out _ _ ⟨KS.o.cell (KA.o.cell (HE7.o.cell y0 (by simp;exact HLG.o)) (by simp)) (by simp;exact HLB.o),KS.o.cell (KA.o.cell (HE7.o.cell y1 (by simp;exact HLG.o)) (by simp)) (by simp;exact HLB.o),KS.o.cell (KA.o.cell (HE7.o.cell y2 (by simp;exact HLG.o)) (by simp)) (by simp;exact HLB.o),KS.o.cell (KA.o.cell (HE7.o.cell y3 (by simp;exact HLG.o)) (by simp)) (by simp;exact HLB.o),KS.o.cell (KA.o.cell (HE7.o.cell y4 (by simp;exact HLG.o)) (by simp)) (by simp;exact HLB.o),KS.o.cell (KA.o.cell (HE7.o.cell y5 (by simp;exact HLG.o)) (by simp)) (by simp;exact HLB.o),KS.o.cell (KA.o.cell (HE7.o.cell y6 (by simp;exact HLG.o)) (by simp)) (by simp;exact HLB.o),KS.o.cell (KA.o.cell (HE7.o.cell y7 (by simp;exact HLG.o)) (by simp)) (by simp;exact HLB.o)⟩ (fun hHeld=> ?_);clear hK K;refine wd ?_;clear z0 z1 z2 z3 z4 z5 z6 z7 zf y0 y1 y2 y3 y4 y5 y6 y7 hHeld;go_wp2;refine rc H1.o ?_;exact H2.o
       ·go_wp2_with fail
        refine Calls.mono (set_any HM3.o) ?_;rintro e w9 ⟨s,lf9,rfl,hso,hsm,hsk,hsf,hsw,hsb,hsp⟩;replace hsp:=Lone.left' (d:=(d1 + 1)) HA1.o hsp;have HSP:=gi hsp;have HSO:=gi hso;have HSM:=gi hsm;have HSK:=gi (HK30.o.trans hsk);have HSF:=gi (show ∀ b∈s.blocks,w.heap.size≤b∧b≠B from fun b hb=> by
         have h1:=hsf b hb;have h2:=lt_of_block HZ3.o;have h3:=HBE.o
         omega)
        have HSW:=gi hsw;have HSB:=gi hsb;have hz9:=hsk.heap HZ3.o (by simp;exact HBG.o);obtain ⟨s0,hs0⟩:∃ s0,s0=s:=⟨_,rfl⟩;rw [←hs0] at HSO HSF HSW HSB HSP;have HS0:=gi hs0;obtain ⟨op3,sa3,sc3,set3,ka3,kc3,kids3,mn3,mx3,mode3,n3,neg3⟩:=s;simp only [MRe.val];obtain ⟨z0,z1,z2,z3,z4,z5,z6,z7,zf⟩:=zero_cells hz9;obtain ⟨hR,hok,hm,hk,hfr⟩:=gen_store HM.o HSM.o HSK.o (Nat.le_of_eq HBE.o.symm) hz9 (by have:=HSO.o;rw [HS0.o] at this;exact this) (by have:=HSF.o;rw [HS0.o] at this;exact this);have H1:=gi hR;have H2:=gi hok;have H3:=gi hm;have H4:=gi hk;have H5:=gi hfr;clear hR hok hm hk hfr hz9 hso hsm hsk hsf hsw hsb hs0 hsp;go_wp2;refine rc H1.o ?_;exact ⟨_,lf9,rfl,H2.o,H3.o,H4.o,H5.o,by have:=HSW.o;rw [HS0.o] at this;exact this,by have:=HSB.o;rw [HS0.o] at this;exact Nat.le_trans this (by omega),by have:=HSP.o;rw [HS0.o] at this;exact this⟩
      ·go_wp2_with fail
       refine Calls.mono (set_any HM3.o) ?_;rintro e w9 ⟨s,lf9,rfl,hso,hsm,hsk,hsf,hsw,hsb,hsp⟩;replace hsp:=Lone.left' (d:=(d1 + 1)) HA1.o hsp;have HSP:=gi hsp;have HSO:=gi hso;have HSM:=gi hsm;have HSK:=gi (HK30.o.trans hsk);have HSF:=gi (show ∀ b∈s.blocks,w.heap.size≤b∧b≠B from fun b hb=> by
        have h1:=hsf b hb;have h2:=lt_of_block HZ3.o;have h3:=HBE.o
        omega)
       have HSW:=gi hsw;have HSB:=gi hsb;have hz9:=hsk.heap HZ3.o (by simp;exact HBG.o);obtain ⟨s0,hs0⟩:∃ s0,s0=s:=⟨_,rfl⟩;rw [←hs0] at HSO HSF HSW HSB HSP;have HS0:=gi hs0;obtain ⟨op3,sa3,sc3,set3,ka3,kc3,kids3,mn3,mx3,mode3,n3,neg3⟩:=s;simp only [MRe.val];obtain ⟨z0,z1,z2,z3,z4,z5,z6,z7,zf⟩:=zero_cells hz9;obtain ⟨hR,hok,hm,hk,hfr⟩:=gen_store HM.o HSM.o HSK.o (Nat.le_of_eq HBE.o.symm) hz9 (by have:=HSO.o;rw [HS0.o] at this;exact this) (by have:=HSF.o;rw [HS0.o] at this;exact this);have H1:=gi hR;have H2:=gi hok;have H3:=gi hm;have H4:=gi hk;have H5:=gi hfr;clear hR hok hm hk hfr hz9 hso hsm hsk hsf hsw hsb hs0 hsp;go_wp2;refine rc H1.o ?_;exact ⟨_,lf9,rfl,H2.o,H3.o,H4.o,H5.o,by have:=HSW.o;rw [HS0.o] at this;exact this,by have:=HSB.o;rw [HS0.o] at this;exact Nat.le_trans this (by omega),by have:=HSP.o;rw [HS0.o] at this;exact this⟩
     ·go_wp2_with fail
      refine Calls.mono (set_any HM3.o) ?_;rintro e w9 ⟨s,lf9,rfl,hso,hsm,hsk,hsf,hsw,hsb,hsp⟩;replace hsp:=Lone.left' (d:=(d1 + 1)) HA1.o hsp;have HSP:=gi hsp;have HSO:=gi hso;have HSM:=gi hsm;have HSK:=gi (HK30.o.trans hsk);have HSF:=gi (show ∀ b∈s.blocks,w.heap.size≤b∧b≠B from fun b hb=> by
       have h1:=hsf b hb;have h2:=lt_of_block HZ3.o;have h3:=HBE.o
       omega)
      have HSW:=gi hsw;have HSB:=gi hsb;have hz9:=hsk.heap HZ3.o (by simp;exact HBG.o);obtain ⟨s0,hs0⟩:∃ s0,s0=s:=⟨_,rfl⟩;rw [←hs0] at HSO HSF HSW HSB HSP;have HS0:=gi hs0;obtain ⟨op3,sa3,sc3,set3,ka3,kc3,kids3,mn3,mx3,mode3,n3,neg3⟩:=s;simp only [MRe.val];obtain ⟨z0,z1,z2,z3,z4,z5,z6,z7,zf⟩:=zero_cells hz9;obtain ⟨hR,hok,hm,hk,hfr⟩:=gen_store HM.o HSM.o HSK.o (Nat.le_of_eq HBE.o.symm) hz9 (by have:=HSO.o;rw [HS0.o] at this;exact this) (by have:=HSF.o;rw [HS0.o] at this;exact this);have H1:=gi hR;have H2:=gi hok;have H3:=gi hm;have H4:=gi hk;have H5:=gi hfr;clear hR hok hm hk hfr hz9 hso hsm hsk hsf hsw hsb hs0 hsp;go_wp2;refine rc H1.o ?_;exact ⟨_,lf9,rfl,H2.o,H3.o,H4.o,H5.o,by have:=HSW.o;rw [HS0.o] at this;exact this,by have:=HSB.o;rw [HS0.o] at this;exact Nat.le_trans this (by omega),by have:=HSP.o;rw [HS0.o] at this;exact this⟩
end Go.Proofs.YtjnlkjlbejelgaaGreat
