/- Part 26 of the proof. No condition: every lemma says its own. -/
import Derived.Test.YtjnlkjlbejelgaaGreatLay
namespace Go.Proofs.YtjnlkjlbejelgaaGreat
open Go.RowKit
open Go.Value renaming int→H,slice→M,bool→F
open Go.IntKind renaming i64→J
set_option maxRecDepth 100000
set_option maxHeartbeats 16000000
def TreeGen (d:Nat) (bd:Nat):Prop:=∀ (w:World) (g:Nat) (la:Option Addr) (lc:Nat) (zs:List Int) (uses:Int),MakerAt w g la lc zs uses→
 Calls Tryz.prog 73 #[.pointer (some ⟨g,0,none⟩),H J (d:Int)] w (GenPost w g la lc zs uses bd)
def KidsPost (w:World) (g:Nat) (la:Option Addr) (lc:Nat) (zs:List Int) (uses:Int) (bd:Nat) (e:Ending) (w':World):Prop:=
 ∃ (a:Option Nat) (c:Nat) (ks:List MRe),e=.returned (sv a ks.length c)∧2≤ks.length∧ks.length≤3∧KidsIn w' (a.map fun x=> ⟨x,0,none⟩) c ks∧MakerAt w' g la lc zs uses∧Keeps [g] w w'∧
  (∀ x,a=some x→w.heap.size≤x)∧∀ x∈ks,x.tree.WF∧x.tree.bulk≤bd∧∀ b∈x.blocks,w.heap.size≤b
theorem MakerAt.keepF {w V V':World} {g:Nat} {S:List Nat} {la lc zs uses} (h0:MakerAt w g la lc zs uses) (h:MakerAt V g la lc zs uses) (hB:∀ x∈S,w.heap.size≤x) (k:Keeps S V V'):MakerAt V' g la lc zs uses:=by
 obtain ⟨a,l,c,h1,h2,hr⟩:=h.row;have hg:=h0.lt;exact ⟨h.ints.keepN k (fun hp a ha hm=> by have:=(h0.sep hp a ha).1;have:=hB _ hm;omega),h.len,h.i64,fun hp a ha=> ⟨Nat.lt_of_lt_of_le (h.sep hp a ha).1 k.size,(h.sep hp a ha).2⟩,a,l,c,h1,h2,k.heap hr (fun hm=> by have:=hB _ hm;omega)⟩
theorem kidsgen_any {d bd:Nat} (TH:TreeGen d bd) (hd:d≤100) {w:World} {g:Nat} {la lc zs uses} (h:MakerAt w g la lc zs uses):
  Calls Tryz.prog 107 #[.pointer (some ⟨g,0,none⟩),H J ((d:Int) + 1)] w (KidsPost w g la lc zs uses bd):=by
 obtain ⟨i0,hi,hz0,hz1,hz2⟩:=info_parts infoRe;have Hi:=gi hi;have Hz0:=gi hz0;have Hz1:=gi hz1;have Hz2:=gi hz2;have HM:=gi h;have HTH:=gi TH;have HGL:=gi h.lt;clear hi hz0 hz1 hz2 h TH;go_enter Tryz.func107,Tryz.ntmps107
 go_wp2
 go_loopw [5,6] (fun v i wr=> ∃ (k:Nat) (a:Option Nat) (c:Nat) (ks:List MRe),k≤3∧i=H J k∧v=sv a k c∧ks.length=k∧SliceAt wr 26 8 a k c (flatK ks)∧
   (∀ x∈ks,x.OK wr∧(∀ b∈x.blocks,w.heap.size≤b∧a≠some b)∧x.tree.WF∧x.tree.bulk≤bd)∧(∀ x,a=some x→w.heap.size≤x)∧MakerAt wr g la lc zs uses∧Keeps [g] w wr) (fun _ i _=> 3 - (intOf i).toNat)
 case atStart=> exact ⟨0,none,0,[],by omega,rfl,rfl,rfl,SliceAt.nil _ _ _,by simp,by simp,HM.o,Keeps.refl _ _⟩
 case round=>
  obtain ⟨k,a,c,ks,hk3,rfl,rfl,hkl,hsl,hks,hag,hm,hkp⟩:=hrel;have HSL:=gi hsl;have HKS:=gi hks;have HAG:=gi hag;have HMR:=gi hm;have HKP:=gi hkp;have HKL:=gi hkl;obtain ⟨wo,hwo⟩:∃ wo,wo=wr:=⟨_,rfl⟩;clear hsl hks hag hm hkp hkl;go_wp2_with fail
  refine Calls.mono (next_any HMR.o 2 (by omega)) ?_;rintro e w2 ⟨x,hx0,hx1,rfl,hm2,hk2,_⟩;have HM2:=gi hm2;have HK2:=gi hk2;clear hm2 hk2
  by_cases hlt:(k:Int) < 2 + x
  ·go_wp2_with fail
   refine Calls.mono (HTH.o w2 g la lc zs uses HM2.o) ?_;rintro e w5 ⟨m',rfl,ho5,hm5,hk5,hf5,hwf,hbd⟩;have HO5:=gi ho5;have HM5:=gi hm5;have HK5:=gi (show Keeps [g] wr w5 from HK2.o.trans hk5);have HF5:=gi (show ∀ b∈m'.blocks,wr.heap.size≤b from fun b hb=> Nat.le_trans HK2.o.size (hf5 b hb));have HWF:=gi hwf;have HBD:=gi hbd;have hone:=flatK_one [m'];rw [show flatK [m']=m'.row by simp [flatK]] at hone;obtain ⟨m0,hm0⟩:∃ m0,m0=m':=⟨_,rfl⟩;rw [←hm0] at HO5 HF5 HWF HBD;have HM0:=gi hm0;obtain ⟨op2,sa2,sc2,set2,ka2,kc2,kids2,mn2,mx2,mode2,n2,neg2⟩:=m';simp only [MRe.row] at hone;simp only [MRe.val];have HONE:=gi hone;clear ho5 hm5 hk5 hf5 hwf hbd hm0 hone;have hga:g ∉ a.toList:=fun h=> by
    have:=HAG.o g (by simpa using h)
    have:=HGL.o
    omega
   have HSL5:=gi (HSL.o.keep HK5.o (by
    intro x hx h;simp at h;subst h
    have:=HAG.o _ hx
    have:=HGL.o
    omega))
   go_wp2_with (at_builtin;refine wpList_append_sl rfl (.tmp 14) (.tmp 19) 24 rfl 26 i0 _ 8 96 Tryz.underlying24 Hi.o Hz0.o Hz1.o Hz2.o rfl (by decide) a k c _ rfl (HSL5.o.alloc _) ⟨w5.heap.size,0,none⟩ 1 1 [H J op2,M sa2 set2.length sc2,M ka2 kids2.length kc2,H J mn2,H J mx2,H J mode2,H J n2,F neg2] rfl rfl (news_row' _ _ _ _ rfl) HONE.o (by decide) (by omega) (by omega) ?hk)
   case hk=>
    intro g6 c6 w6 hsl6 hk6 hg6;have kA:Keeps [g] wr (w5.alloc (.cells #[H J op2,M sa2 set2.length sc2,M ka2 kids2.length kc2,H J mn2,H J mx2,H J mode2,H J n2,F neg2] 26)):=HK5.o.alloc _;have hal:∀ y,a=some y→y < wr.heap.size:=fun y hy=> by subst hy;exact HSL.o.lt
    have hag:=HAG.o;have hgl:=HGL.o;have hs5:=HK5.o.size;have hsw:=HKP.o.size;have hg7:a=some g6∨w5.heap.size + 1≤g6:=by
     rcases hg6 with h | h
     ·exact .inl h
     ·right;simpa using h
    have hel:∀ x∈ks ++ [m0],x.OK w6∧(∀ b∈x.blocks,w.heap.size≤b∧some g6≠some b)∧x.tree.WF∧x.tree.bulk≤bd:=by
     intro x hx
     rcases List.mem_append.1 hx with hx | hx
     ·obtain ⟨h1,h2,h3,h4⟩:=HKS.o x hx;refine ⟨(h1.keepS kA fun b hb h=> ?_).keepS hk6 fun b hb h=> (h2 b hb).2 (by simpa using h),fun b hb=> ⟨(h2 b hb).1,fun h=> ?_⟩,h3,h4⟩
      ·have:=(h2 b hb).1
       simp at h;omega
      ·have h5:=h1.block_lt b hb
       rcases hg7 with h7 | h7
       ·exact (h2 b hb).2 (by rw [h7,h])
       ·cases h;omega
     ·simp at hx;subst hx;refine ⟨(HO5.o.keep (Keeps.a1 w5 _)).keepS hk6 fun b hb h=> ?_,fun b hb=> ?_,HWF.o,HBD.o⟩
      ·have h3:=HF5.o b hb;have h4:=hal b (by simpa using h);omega
      ·have h3:=HF5.o b hb;have h4:=HO5.o.block_lt b hb;refine ⟨by omega,fun h=> ?_⟩
       cases h
       rcases hg7 with h7 | h7
       ·have:=hal _ h7;omega
       ·omega
    have hag6:∀ z,some g6=some z→w.heap.size≤z:=by
     intro z hz
     cases hz
     rcases hg7 with h7 | h7
     ·exact hag _ h7
     ·omega
    have hm6:=HM.o.keepF (HM5.o.keep (Keeps.a1 w5 (.cells #[H J op2,M sa2 set2.length sc2,M ka2 kids2.length kc2,H J mn2,H J mx2,H J mode2,H J n2,F neg2] 26))) (fun x hx=> hag x (by simpa using hx)) hk6;have hk6':=(HKP.o.trans kA).after hk6 (fun x hx=> .inr (hag x (by simpa using hx)));have hfl:flatK (ks ++ [m0])=flatK ks ++ [H J op2,M sa2 set2.length sc2,M ka2 kids2.length kc2,H J mn2,H J mx2,H J mode2,H J n2,F neg2]:=by rw [flatK_append,HM0.o];simp [flatK,MRe.row]
    rw [←hfl] at hsl6;have HSL6:=gi hsl6;have HEL:=gi hel;have HAG6:=gi hag6;have HM6:=gi hm6;have HK6:=gi hk6';clear kA hal hag hgl hs5 hsw hg7 hel hag6 hm6 hk6 hk6' hfl hsl6 hg6;have hk2:k≤2:=by omega
    go_wp2;go_roundw
    case rel=> exact ⟨k + 1,some g6,c6,ks ++ [m0],by omega,by go_num,rfl,by simp [HKL.o],HSL6.o,HEL.o,HAG6.o,HM6.o,HK6.o⟩
    case measure=> simp [intOf];omega
  ·have hk2:2≤k:=by omega
   go_wp2;go_ret;have hkl:=HKL.o;subst hkl;have hag:=HAG.o;have hgl:=HGL.o;refine ⟨a,c,ks,rfl,hk2,hk3,⟨NodesIn.of_sl (HSL.o.keep HK2.o (fun x hx h=> ?_)),fun x hx=> (HKS.o x hx).1.keepS HK2.o fun b hb h=> ?_⟩,HM2.o,HKP.o.trans HK2.o,hag,fun x hx=> ⟨(HKS.o x hx).2.2.1,(HKS.o x hx).2.2.2,fun b hb=> ((HKS.o x hx).2.1 b hb).1⟩⟩
   ·simp at h;subst h
    have:=hag _ hx
    omega
   ·have:=((HKS.o x hx).2.1 b hb).1
    simp at h;omega
theorem lone_gen {W:World} {T:Nat} {s:MRe} (h1:s.OK W) (cs:Array Value) (hcs:cs.toList=s.row):KidsIn (W.alloc (.cells cs T)) (some ⟨W.heap.size,0,none⟩) 1 [s]:=
 ⟨NodesIn.of_block (kids:=[s]) (heap_alloc_new W _) (by rw [hcs];simp [flatK]) (by simp [maxLen]),fun x hx=> by
  simp only [List.mem_cons,List.not_mem_nil,or_false] at hx;subst hx;exact h1.keep (Keeps.a1 _ _)⟩
theorem capture_any {d bd:Nat} (TH:TreeGen d bd) (hd:d≤100) {w:World} {g:Nat} {la lc zs uses} (h:MakerAt w g la lc zs uses):
  Calls Tryz.prog 109 #[.pointer (some ⟨g,0,none⟩),H J ((d:Int) + 1)] w (GenPost w g la lc zs uses (1 + bd)):=by
 have HM:=gi h;have HTH:=gi TH;have HGL:=gi h.lt;clear TH;obtain ⟨B,hBe⟩:∃ B,B=w.heap.size:=⟨_,rfl⟩;obtain ⟨X,hXe⟩:∃ X:World,X=w.alloc (.cells #[H J 0,M none 0 0,M none 0 0,H J 0,H J 0,H J 0,H J 0,F false] 26):=⟨_,rfl⟩;have hkX:Keeps [] w X:=by rw [hXe];exact Keeps.a1 _ _
 have hz:X.heap[B]? =some (.cells #[H J 0,M none 0 0,M none 0 0,H J 0,H J 0,H J 0,H J 0,F false] 26 (0,0)):=by rw [hXe,hBe];exact heap_alloc_new w _
 have hmX:=h.keep hkX;obtain ⟨at0,lf,cp,h0,h1,hr⟩:=hmX.row;obtain ⟨c0,c1,c2,c3,c4,cf⟩:=row5_cells hr;have HBE:=gi hBe;have HXE:=gi hXe;have HKX:=gi hkX;have HZ:=gi hz;have HMX:=gi hmX;clear h hBe hXe hkX hz hmX hr;go_enter Tryz.func109,Tryz.ntmps109
 go_upto_region 1 with fail
 rw [←HXE.o,←HBE.o];go_upto_region 2 with fail
 go_cut [24] (fun s24 wx=> ∃ b:Bool,s24=F b∧(b=false→cp≤3)∧(b=true→1≤cp)∧MakerAt wx g la lc zs uses∧Keeps [g] X wx∧wx.cell? ⟨g,4,none⟩=some (H J cp))
 case first=>
  obtain rfl | rfl | rfl | rfl | rfl:cp=0∨cp=1∨cp=2∨cp=3∨cp=4:=by omega
  ·go_wp2;go_meet;exact ⟨false,rfl,by omega,(by intro h;cases h),HMX.o,Keeps.refl _ _,c4⟩
  ·go_wp2_with fail
   refine Calls.mono (next_any HMX.o 9 (by omega)) ?_;rintro e w2 ⟨x,hx0,hx1,rfl,hm2,hk2,hc4⟩;have e4:=hc4 _ c4;have HM2:=gi hm2;have HK2:=gi hk2;clear hm2 hk2 hc4 c0 c1 c2 c3 c4 cf;obtain ⟨q,hq⟩:∃ q:Bool,(x==0)=q:=⟨_,rfl⟩;go_wp2;go_meet;exact ⟨q,rfl,by omega,by omega,HM2.o,HK2.o,e4⟩
  ·go_wp2_with fail
   refine Calls.mono (next_any HMX.o 9 (by omega)) ?_;rintro e w2 ⟨x,hx0,hx1,rfl,hm2,hk2,hc4⟩;have e4:=hc4 _ c4;have HM2:=gi hm2;have HK2:=gi hk2;clear hm2 hk2 hc4 c0 c1 c2 c3 c4 cf;obtain ⟨q,hq⟩:∃ q:Bool,(x==0)=q:=⟨_,rfl⟩;go_wp2;go_meet;exact ⟨q,rfl,by omega,by omega,HM2.o,HK2.o,e4⟩
  ·go_wp2_with fail
   refine Calls.mono (next_any HMX.o 9 (by omega)) ?_;rintro e w2 ⟨x,hx0,hx1,rfl,hm2,hk2,hc4⟩;have e4:=hc4 _ c4;have HM2:=gi hm2;have HK2:=gi hk2;clear hm2 hk2 hc4 c0 c1 c2 c3 c4 cf;obtain ⟨q,hq⟩:∃ q:Bool,(x==0)=q:=⟨_,rfl⟩;go_wp2;go_meet;exact ⟨q,rfl,by omega,by omega,HM2.o,HK2.o,e4⟩
  ·go_wp2;go_meet;exact ⟨true,rfl,(by intro h;cases h),by omega,HMX.o,Keeps.refl _ _,c4⟩
 case rest=>
 obtain ⟨b,rfl,hbf,hbt,hm,hk,hc4⟩:=hcut;have HB1:=gi hbf;have HB2:=gi hbt;have HM7:=gi hm;have HK7:=gi hk;clear c0 c1 c2 c3 c4 cf hm hk hbf hbt
 go_upto_if 24 with fail
 go_cut [5] (fun s5 wx=> ∃ n:Int,s5=H J n∧1≤n∧n≤4∧MakerAt wx g la lc zs uses∧Keeps [g] X wx)
 case first=>
  cases b with
  | false=>
   have h3:=HB1.o rfl;go_wp2;go_meet;exact ⟨cp + 1,rfl,by omega,by omega,HM7.o,HK7.o⟩
  | true=>
   have h3:=HB2.o rfl;obtain rfl | hlt:cp=1∨1 < cp:=by omega
   all_goals
    go_wp2_with fail
    refine Calls.mono (next_any HM7.o _ (by omega)) ?_;rintro e w3 ⟨y,hy0,hy1,rfl,hm3,hk3,_⟩;have HM3:=gi hm3;have HK3:=gi (HK7.o.trans hk3);clear hm3 hk3;go_wp2;go_meet;exact ⟨1 + y,rfl,by omega,by omega,HM3.o,HK3.o⟩
 case rest=>
  obtain ⟨n,rfl,hn1,hn4,hm,hk⟩:=hcut;clear hc4;have HM1:=gi hm;have HK1:=gi hk;clear hm hk h0 h1;go_upto_region 4 with fail
  go_cut [39] (fun s39 wx=> MakerAt wx g la lc zs uses∧Keeps [g] X wx)
  case first=>
   obtain ⟨at1,lf1,cp1,h01,h11,hr1⟩:=HM1.o.row;obtain ⟨c0,c1,c2,c3,c4,cf⟩:=row5_cells hr1;have HR1:=gi hr1;clear hr1;obtain ⟨mm,hmm⟩:∃ mm,mm=max cp1 n:=⟨_,rfl⟩;have HMM:=gi (show 0≤mm∧mm≤4 by omega);have hput:∀ V,V=wc.setCell ⟨g,4,none⟩ (H J mm)→MakerAt V g la lc zs uses∧Keeps [g] X V:=fun V hVe=> by
    have hkV:Keeps [g] wc V:=by rw [hVe];exact (Keeps.refl [g] wc).setCell (p:=⟨g,4,none⟩) (.inl (by simp)) _
    have hrV:V.heap[g]? =some (.cells #[M la zs.length lc,H J at1,H J uses,H J lf1,H J mm] 99 (0,0)):=by rw [hVe];exact heap_setCell_same _ g 4 _ _ _ HR1.o
    exact ⟨HM1.o.put hkV HMM.o.1 HMM.o.2 hrV,HK1.o.trans hkV⟩
   have HP:=gi hput;clear hput
   by_cases hcn:cp1 < n
   ·obtain rfl:mm=n:=by omega
    clear hmm;go_wp2;go_meet
    first | exact HP.o _ rfl | exact HP.o _ (by rw [Int.max_eq_right (by omega)])
   ·obtain rfl:mm=cp1:=by omega
    clear hmm;go_wp2;go_meet
    first | exact HP.o _ rfl | exact HP.o _ (by rw [Int.max_eq_left (by omega)])
  case rest=>
  obtain ⟨hmv,hkv⟩:=hcut;obtain ⟨V,hVe⟩:∃ V,V=wc:=⟨_,rfl⟩;have HMV:=gi hmv;have HKV:=gi hkv;clear hmv hkv;go_wp2_with fail
  refine Calls.mono (HTH.o _ g la lc zs uses HMV.o) ?_;rintro e w5 ⟨m',rfl,ho5,hm5,hk5,hf5,hwf,hbd⟩;have HO5:=gi ho5;have HM5:=gi hm5;have HK5:=gi (show Keeps [g] X w5 from HKV.o.trans hk5);have HF5:=gi (show ∀ b∈m'.blocks,X.heap.size≤b from fun b hb=> Nat.le_trans HKV.o.size (hf5 b hb));have HWF:=gi hwf;have HBD:=gi hbd;obtain ⟨m0,hm0⟩:∃ m0,m0=m':=⟨_,rfl⟩;rw [←hm0] at HO5 HF5 HWF HBD;have HM0:=gi hm0;obtain ⟨op2,sa2,sc2,set2,ka2,kc2,kids2,mn2,mx2,mode2,n2,neg2⟩:=m';simp only [MRe.val];clear ho5 hm5 hk5 hf5 hwf hbd hm0;have hgl:=HGL.o;have hXS:B + 1≤X.heap.size:=by rw [HXE.o,HBE.o];simp
  have hne:B≠g:=by rw [HBE.o];omega
  have hz2:=(HK5.o.alloc (.cells #[H J op2,M sa2 set2.length sc2,M ka2 kids2.length kc2,H J mn2,H J mx2,H J mode2,H J n2,F neg2] 26)).heap HZ.o (by simp;exact hne);obtain ⟨z0,z1,z2,z3,z4,z5,z6,z7,zf⟩:=zero_cells hz2;obtain ⟨hR,hok,hm,hk,hfr⟩:=gen_store (op:=5) (set:=[]) (sa:=none) (sc:=0) (ka:=some ⟨w5.heap.size,0,none⟩) (kc:=1) (kids:=[m0]) (mn:=0) (mx:=0) (mode:=0) (n:=n) (neg:=false) HM.o (HM5.o.keep (Keeps.a1 w5 (.cells #[H J op2,M sa2 set2.length sc2,M ka2 kids2.length kc2,H J mn2,H J mx2,H J mode2,H J n2,F neg2] 26))) (((HKX.o.mono (S':=[g]) (by simp)).trans HK5.o).alloc _) (Nat.le_of_eq HBE.o.symm) hz2 (.of (SpansIn.nil _) (lone_gen HO5.o _ (by rw [HM0.o];rfl))) (fun b hb=> by
   have hs5:=HK5.o.size;have hbe:=HBE.o;simp only [MRe.blocks,MRe.blocksL,List.mem_append,List.not_mem_nil,or_false] at hb
   rcases hb with h | h | h
   ·simp [blockIf] at h
   ·simp [blockIf] at h;subst h;omega
   ·have:=HF5.o b h;omega)
  have H1:=gi hR;have H2:=gi hok;have H3:=gi hm;have H4:=gi hk;have H5:=gi hfr;clear hR hok hm hk hfr hz2 hgl hXS hne;go_wp2;refine rc H1.o ?_;exact ⟨_,rfl,H2.o,H3.o,H4.o,H5.o,.mk (by
   show NodeOK 5 [] 1 0 0 0 n false
   constructor <;> first | omega | (intro h;omega) | simp) (by intro k hk;simp only [MRe.trees,List.mem_cons,List.not_mem_nil,or_false] at hk;subst hk;exact HWF.o),by have:=HBD.o;show 1 + 0 + (m0.tree.bulk + 0)≤1 + bd;omega⟩
end Go.Proofs.YtjnlkjlbejelgaaGreat
