/- Part 18 of the proof. No condition: every lemma says its own. -/
import Derived.Deep.DeepCutAuto
import Derived.Test.YtjnlkjlbejelgaaGreatLak
import Derived.Test.YtjnlkjlbejelgaaGreatLag
import Derived.Test.YtjnlkjlbejelgaaGreatLac
import Derived.Test.YtjnlkjlbejelgaaGreatLao
import Derived.Test.YtjnlkjlbejelgaaGreatLap
import Derived.Test.YtjnlkjlbejelgaaGreatLaq
import Derived.Test.YtjnlkjlbejelgaaGreatLae
import Derived.Test.YtjnlkjlbejelgaaGreatLam
namespace Go.Proofs.YtjnlkjlbejelgaaGreat
open Go.RowKit
open Go.Value renaming int→H,slice→M,bool→F
open Go.IntKind renaming i64→J
set_option maxRecDepth 100000
set_option maxHeartbeats 16000000
def SomeBelow (n:Int) (w:World) (e:Ending) (w':World):Prop:=∃ k:Int,0≤k∧k < n∧e=.returned (H J k)∧w=w'
theorem pick_any (ao:Option Addr) (c:Nat) (xs:List Int) (i n:Int) (w:World) (hx:IntsIn w ao xs) (hl:xs.length≤9223372036854775807) (hb:∀ x∈xs,I64 x) (hn:0 < n):
  Calls Tryz.prog 58 #[M ao xs.length c,H J i,H J n] w (SomeBelow n w):=by
 by_cases h0:i < 0
 ·go_enter Tryz.func58,Tryz.ntmps58
  go_wp2;go_ret;exact ⟨0,by omega,hn,rfl,rfl⟩
 ·by_cases h1:i < xs.length
  ·obtain ⟨k,rfl⟩:∃ k:Nat,i=k:=⟨i.toNat,by omega⟩;obtain ⟨b,off,rfl,hc⟩:=hx (by omega);have hck:=hc k (by omega);have hk:I64 (xs.getD k 0):=by
    have hm:xs.getD k 0∈xs:=by
     rw [List.getD_eq_getElem?_getD,List.getElem?_eq_getElem (by omega),Option.getD_some];exact List.getElem_mem _
    exact hb _ hm
   generalize xs.getD k 0=x at *
   have HA:=around_any x n;have hbd:=aroundF_bd x n hn
   generalize aroundF x n=q at *
   have HB:=gi hbd;have HK:=gi hk;have HN:=gi hn;have HA:=gi HA;have hkn:k < xs.length:=by omega
   clear hx hc hb hbd hk;go_enter Tryz.func58,Tryz.ntmps58
   go_wp2_with fail
   refine Calls.mono (HA.o _ HN.o HK.o) ?_;rintro e w' ⟨rfl,rfl⟩;go_wp2;go_ret;exact ⟨q,HB.o.1,HB.o.2,rfl,rfl⟩
  ·go_enter Tryz.func58,Tryz.ntmps58
   go_wp2;go_ret;exact ⟨0,by omega,hn,rfl,rfl⟩
structure MakerAt (w:World) (g:Nat) (la:Option Addr) (lc:Nat) (zs:List Int) (uses lf:Int):Prop where
 ints:IntsIn w la zs
 len:zs.length≤9223372036854775807
 i64:∀ x∈zs,I64 x
 sep:0 < zs.length→∀ a,la=some a→a.block < w.heap.size∧a.block≠g
 row:∃ at' caps:Int,0≤caps∧caps≤4∧w.heap[g]? =some (.cells #[M la zs.length lc,H J at',H J uses,H J lf,H J caps] 99 (0,0))
theorem IntsIn.keepS {w w':World} {S:List Nat} {la:Option Addr} {zs:List Int} (h:IntsIn w la zs) (k:Keeps S w w') (hs:∀ a,la=some a→a.block ∉ S):IntsIn w' la zs:=fun h0=> by
 obtain ⟨b,off,rfl,hc⟩:=h h0;exact ⟨b,off,rfl,fun j hj=> k.cell (hc j hj) (hs ⟨b,off,none⟩ rfl)⟩
theorem IntsIn.keepN {w w':World} {S:List Nat} {la:Option Addr} {zs:List Int} (h:IntsIn w la zs) (k:Keeps S w w') (hs:0 < zs.length→∀ a,la=some a→a.block ∉ S):IntsIn w' la zs:=fun h0=> by
 obtain ⟨b,off,rfl,hc⟩:=h h0;exact ⟨b,off,rfl,fun j hj=> k.cell (hc j hj) (hs h0 ⟨b,off,none⟩ rfl)⟩
theorem IntsIn.lt {w:World} {la:Option Addr} {zs:List Int} (h:IntsIn w la zs) (h0:0 < zs.length):∀ a,la=some a→a.block < w.heap.size:=fun a ha=> by
 obtain ⟨b,off,rfl,hc⟩:=h h0
 cases ha
 exact World.block_lt_of_cell? _ _ (hc 0 h0)
theorem MakerAt.keep {w w':World} {g:Nat} {la lc zs uses lf} (h:MakerAt w g la lc zs uses lf) (k:Keeps [] w w'):MakerAt w' g la lc zs uses lf:=by
 obtain ⟨a,c,h0,h1,hr⟩:=h.row;exact ⟨h.ints.keepS k (fun _ _=> by simp),h.len,h.i64,fun h0 a ha=> ⟨Nat.lt_of_lt_of_le (h.sep h0 a ha).1 k.size,(h.sep h0 a ha).2⟩,a,c,h0,h1,k.h hr⟩
theorem MakerAt.put {w w':World} {g:Nat} {la lc zs uses lf} (h:MakerAt w g la lc zs uses lf) (k:Keeps [g] w w') {a l c:Int} (h0:0≤c) (h1:c≤4)
  (hr:w'.heap[g]? =some (.cells #[M la zs.length lc,H J a,H J uses,H J l,H J c] 99 (0,0))):MakerAt w' g la lc zs uses l:=
 ⟨h.ints.keepN k (fun h0 a ha=> by have:=(h.sep h0 a ha).2;simpa using this),h.len,h.i64,fun h0 a ha=> ⟨Nat.lt_of_lt_of_le (h.sep h0 a ha).1 k.size,(h.sep h0 a ha).2⟩,a,c,h0,h1,hr⟩
theorem row5_cells {w:World} {g T:Nat} {a b c d e:Value} (h:w.heap[g]? =some (.cells #[a,b,c,d,e] T (0,0))):
  w.cell? ⟨g,0,none⟩=some a∧w.cell? ⟨g,1,none⟩=some b∧w.cell? ⟨g,2,none⟩=some c∧w.cell? ⟨g,3,none⟩=some d∧w.cell? ⟨g,4,none⟩=some e∧(∀ i,w.frozen? ⟨g,i,none⟩=false):=by
 refine ⟨?_,?_,?_,?_,?_,fun i=> ?_⟩ <;> simp [World.cell?,World.frozen?,h]
def NextPost (w:World) (g:Nat) (la:Option Addr) (lc:Nat) (zs:List Int) (uses lf n:Int) (e:Ending) (w':World):Prop:=
 ∃ k:Int,0≤k∧k < n∧e=.returned (H J k)∧MakerAt w' g la lc zs uses lf∧Keeps [g] w w'∧∀ v,w.cell? ⟨g,4,none⟩=some v→w'.cell? ⟨g,4,none⟩=some v
theorem next_any {w:World} {g:Nat} {la lc zs uses lf} (h:MakerAt w g la lc zs uses lf) (n:Int) (hn:0 < n):
  Calls Tryz.prog 105 #[.pointer (some ⟨g,0,none⟩),H J n] w (NextPost w g la lc zs uses lf n):=by
 obtain ⟨a,c,h0,h1,hr⟩:=h.row;obtain ⟨c0,c1,c2,c3,c4,cf⟩:=row5_cells hr;have HR:=gi hr;have HM:=gi h;have H0:=gi h0;have H1:=gi h1;have HN:=gi hn;clear h h0 h1 hr hn;go_enter Tryz.func105,Tryz.ntmps105
 go_upto_region 2 with fail
 obtain ⟨a1,ha1⟩:∃ a1,a1=wrap64 (a + 1):=⟨_,rfl⟩;rw [←ha1];obtain ⟨V,hVe⟩:∃ V,V=w.setCell ⟨g,1,none⟩ (H J a1):=⟨_,rfl⟩;rw [←hVe];have hkV:Keeps [g] w V:=by rw [hVe];exact (Keeps.refl [g] w).setCell (p:=⟨g,1,none⟩) (.inl (by simp)) _
 have hrV:V.heap[g]? =some (.cells #[M la zs.length lc,H J a1,H J uses,H J lf,H J c] 99 (0,0)):=by rw [hVe];exact heap_setCell_same _ g 1 _ _ _ HR.o
 have HMV:=gi (HM.o.put hkV H0.o H1.o hrV);have HKV:=gi hkV;have HC4:=gi c4;clear c0 c1 c2 c3 c4 cf ha1 hVe hkV;obtain ⟨c0,c1,c2,c3,c4,cf⟩:=row5_cells hrV;have HV4:=gi c4;have HI:=gi (fun (W:World) (k:Keeps [] V W) (i:Int)=> pick_any la lc zs i n W (HMV.o.keep k).ints HMV.o.len HMV.o.i64 HN.o);clear hrV;refine rg (S:=fun w'=> w'.cell? ⟨g,0,none⟩=some (M la zs.length lc)∧w'.cell? ⟨g,1,none⟩=some (H J a1)) (fun _ k=> ⟨k.c c0,k.c c1⟩) fun kz hHeld=> ?_;refine tk 0 ?_;refine tk 1 ?_;refine tk 2 ?_;refine tk 3 ?_;refine tk 4 ?_;refine tk 5 ?_;refine tk 6 ?_;refine tk 7 ?_;refine tk 8 ?_;refine tk 9 ?_;refine j6 10 fun K hK=> ?_;go_simp;refine Calls.mono (HI.o _ (Keeps.refl [] V).drew _) ?_;rintro e w2 ⟨k,hk0,hkn,rfl,rfl⟩;have HB0:=gi hk0;have HBN:=gi hkn;clear hk0 hkn;refine hK.out _ _ (⟨c0,c1⟩) (fun hHeld=> ?_);clear hK K;try go_frame
 refine tk 11 ?_;refine wd ?_;clear c0 c1 c2 c3 c4 cf hHeld;go_wp2;go_ret;refine ⟨k,HB0.o,HBN.o,rfl,HMV.o.keep (Keeps.refl [] V).drew,HKV.o.drew,fun v hv=> ?_⟩;have h4:=HC4.o;rw [hv] at h4
 cases h4
 exact HV4.o
def atT:Tree→List Int→Option Tree
 | t,[]=> some t
 | t,x::r=> if 0≤x∧x < t.kids.length then atT (t.kids.getD x.toNat .nil) r else none
def AtPost (w:World) (src:List Nat) (err:Int) (o:Option Tree) (e:Ending) (w':World):Prop:=
 ∃ m:MRe,e=.returned (.tuple #[m.val,H J (if o.isSome then 0 else err)])∧m.tree=o.getD .nil∧m.OK w'∧Keeps [] w w'∧From w.heap.size src m.blocks
theorem AtPost.of_some {w:World} {src:List Nat} {err:Int} {o:Option Tree} {e:Ending} {w':World} (r:MRe) (h:o=some r.tree) (he:e=.returned (.tuple #[r.val,H J 0])) (hr:r.OK w') (hk:Keeps [] w w') (hb:From w.heap.size src r.blocks):AtPost w src err o e w':=by subst h;exact ⟨r,he,rfl,hr,hk,hb⟩
theorem AtPost.of_none {w:World} {src:List Nat} {err:Int} {o:Option Tree} {e:Ending} {w':World} (h:o=none) (he:e=.returned (.tuple #[MRe.nil.val,H J err])) (hk:Keeps [] w w'):AtPost w src err o e w':=by
 subst h;exact ⟨MRe.nil,he,rfl,MRe.OK.nil _,hk,by intro b hb;simp [MRe.nil,MRe.blocks,MRe.blocksL,blockIf] at hb⟩
theorem IntsIn.tail {w:World} {b o pc:Nat} {x:Int} {r:List Int} (h:IntsIn w (some ⟨b,o,none⟩) (x::r)) (hc:r.length + 1≤pc):IntsIn w (if pc=1 then some ⟨b,o,none⟩ else some ⟨b,o + 1,none⟩) r:=fun h0=> by
 obtain ⟨b',o',he,hx⟩:=h (by simp)
 cases he
 rw [if_neg (by omega)];refine ⟨b,o + 1,rfl,fun j hj=> ?_⟩
 have:=hx (j + 1) (by simpa using hj)
 rw [Nat.add_assoc,Nat.add_comm 1 j,this]
 simp
theorem rat_any (path:List Int):∀ (m:MRe) (pa:Option Addr) (pc:Nat) (w:World),m.OK w→IntsIn w pa path→path.length≤pc→path.length≤1000000→
  Calls Tryz.prog 10 #[m.val,M pa path.length pc] w (AtPost w m.blocks 7 (atT m.tree path)):=by
 induction path with
 | nil=>
  intro m pa pc w k1 hin hc hl;have HLT:=gi k1.block_lt;obtain ⟨R,hR0⟩:∃ R,R=atT m.tree []:=⟨_,rfl⟩;rw [←hR0];obtain ⟨op,sa,sc,set,ka,kc,kids,mn,mx,mode,n,neg⟩:=m;have HR:=gi (show R=some (MRe.tree (.node op sa sc set ka kc kids mn mx mode n neg)) by rw [hR0,atT]);obtain ⟨B,X,HBE,HXE,HC,HZ,hsz,HKX⟩:=pre0 w op sa sc set ka kc kids mn mx mode n neg;have HO:=gi (k1.keep HKX.o);clear hR0 hin k1 hsz hc hl;simp only [MRe.val,List.length_nil];obtain ⟨c0,c1,c2,c3,c4,c5,c6,c7⟩:=HC.o.cells0;go_enter Tryz.func10,Tryz.ntmps10
  go_upto_region 1 with fail
  rw [←HXE.o,←HBE.o];obtain ⟨z0,z1,z2,z3,z4,z5,z6,z7,zf⟩:=zero_cells HZ.o;obtain ⟨H1,H2,H3,H4⟩:=js (rule_store HBE.o HKX.o (Keeps.refl [] X) HZ.o HO.o (From.refl _ _) HLT.o);go_wp2;refine rt H1.o ?_;exact AtPost.of_some (.node op sa sc set ka kc kids mn mx mode n neg) HR.o rfl H2.o H3.o H4.o
 | cons x r ih=>
  intro m pa pc w k1 hin hc hl;have HLT:=gi k1.block_lt;have HIH:=gi ih;obtain ⟨R,hR0⟩:∃ R,R=atT m.tree (x::r):=⟨_,rfl⟩;rw [←hR0];obtain ⟨pb,po,rfl,hpx⟩:=hin (by simp);have p0:=hpx 0 (by simp);rw [Nat.add_zero,List.getD_cons_zero] at p0;have hlen:(x::r).length=r.length + 1:=rfl;rw [hlen] at hc hl ⊢;have HPB:=gi (show pb < w.heap.size from World.block_lt_of_cell? _ _ p0);have HPT:=gi (hin.tail (pc:=pc) hc);obtain ⟨op,sa,sc,set,ka,kc,kids,mn,mx,mode,n,neg⟩:=m;replace hR0:R=if 0≤x∧x < (MRe.trees kids).length then atT ((MRe.trees kids).getD x.toNat .nil) r else none:=by rw [hR0,atT];rfl
  rw [MRe.trees_length] at hR0;have hcap:=k1.nodes.cap;have hle:=k1.nodes.le;unfold maxLen at hcap;have HK:=gi k1.kids;obtain ⟨B,X,HBE,HXE,HC,HZ,hsz,HKX⟩:=pre0 w op sa sc set ka kc kids mn mx mode n neg;have HXS:=gi hsz;have q0:=HKX.o.c p0;clear ih hpx hin p0 hlen hsz;simp only [MRe.val]
  by_cases hx:0≤x∧x < kids.length
  ·obtain ⟨hx0,hx1⟩:=hx;obtain ⟨i,rfl⟩:∃ i:Nat,x=(i:Int):=⟨x.toNat,by omega⟩;have hi:i < kids.length:=by omega
   have hin0:¬ (kids.length:Int)≤(i:Int):=by omega
   have hnn:¬ (i:Int) < 0:=by omega
   rw [if_pos ⟨hx0,hx1⟩,Int.toNat_natCast,show (MRe.trees kids).getD i .nil=(kids[i]'hi).tree by rw [List.getD_eq_getElem?_getD,List.getElem?_eq_getElem (by rw [MRe.trees_length];omega),Option.getD_some,trees_getElem]] at hR0;obtain ⟨b,off,rfl,hbb,hkx⟩:=k1.kids.nodes.kid (by omega);have hmi:kids[i]'hi∈kids:=List.getElem_mem hi;have HMI:=gi (show ∀ x∈(kids[i]'hi).blocks,x∈(MRe.node op sa sc set (some ⟨b,off,none⟩) kc kids mn mx mode n neg).blocks from blocks_kid hmi);have HOI:=gi (k1.kid hmi);have hxi:=hkx i hi;have HBB:=gi hbb;obtain ⟨mi,hme⟩:∃ mi,mi=(kids[i]'hi):=⟨_,rfl⟩;rw [←hme] at HMI HOI hxi hR0;obtain ⟨T,hT⟩:∃ T,T=mi.tree:=⟨_,rfl⟩;rw [←hT] at hR0;have HCALL:=fun (W:World) (h:Keeps [] w W)=> HIH.o mi (if pc=1 then some ⟨pb,po,none⟩ else some ⟨pb,po + 1,none⟩) (pc - 1) W (HOI.o.keep h) (HPT.o.keepS h (fun _ _=> by simp)) (by omega) (by omega);rw [←hT] at HCALL;rw [←hR0] at HCALL;obtain ⟨src,hsrc⟩:∃ src,src=mi.blocks:=⟨_,rfl⟩;simp only [←hsrc] at HCALL;have HSRC:=gi (show ∀ x∈src,x∈(MRe.node op sa sc set (some ⟨b,off,none⟩) kc kids mn mx mode n neg).blocks by rw [hsrc];exact HMI.o);have hsl:∀ W:World,(Instr.sliceAt 22 (M (some ⟨pb,po,none⟩) (r.length + 1) pc) (some (H J 1)) none none).run Tryz.prog W=.ok (M (if pc=1 then some ⟨pb,po,none⟩ else some ⟨pb,po + 1,none⟩) r.length (pc - 1)) W:=by
    intro W;have q1:¬ ((r.length:Int) + 1 < 1):=by omega
    simp [go_sem,q1]
   obtain ⟨pa2,hpa2⟩:∃ pa2,pa2=(if pc=1 then some (⟨pb,po,none⟩:Addr) else some ⟨pb,po + 1,none⟩):=⟨_,rfl⟩;rw [←hpa2] at hsl;simp only [←hpa2] at HCALL;obtain ⟨op1,sa1,sc1,set1,ka1,kc1,kids1,mn1,mx1,mode1,n1,neg1⟩:=mi;have g:=hxi.node;obtain ⟨e0,e1,e2,e3,e4,e5,e6,e7⟩:=id g;obtain ⟨f0,f1,f2,f3,f4,f5,f6,f7⟩:=HKX.o.c8 e0 e1 e2 e3 e4 e5 e6 e7;simp only [MRe.val] at HCALL;have HCALL:=gi HCALL;clear g e0 e1 e2 e3 e4 e5 e6 e7 hkx hmi hme hxi hT hsrc hR0 k1 hbb hpa2 hi;have hin:i < kids.length:=by omega
   have hl0:((r.length:Int) + 1==0)=false:=by simp;omega
   obtain ⟨c0,c1,c2,c3,c4,c5,c6,c7⟩:=HC.o.cells0;go_enter Tryz.func10,Tryz.ntmps10
   go_upto_region 1 with fail
   rw [←HXE.o,←HBE.o];go_wp2_with fail
   refine rg (S:=fun w'=> w'.cell? ⟨B,2,none⟩=some (M (some ⟨b,off,none⟩) kids.length kc)∧w'.cell? ⟨pb,po,none⟩=some (H J i)) (fun _ k=> ⟨k.c c2,k.c q0⟩) fun kz hHeld=> ?_;refine tk 0 ?_;refine tk 1 ?_;refine tk 2 ?_;refine tk 3 ?_;refine tk 4 ?_;refine tk 5 ?_;refine tk 6 ?_;refine tk 7 ?_;refine tk 8 ?_;refine tk 9 ?_;refine tk 10 ?_;refine tk 11 ?_;refine tk 12 ?_;refine wd ?_;obtain ⟨W,hWe⟩:∃ W,W=X.drew:=⟨_,rfl⟩;rw [←hWe];have K3:=gi (show Keeps [] X W by rw [hWe];exact (Keeps.refl [] X).drew);have v2:=K3.o.c c2;have t0:=K3.o.c q0;obtain ⟨g0,g1,g2,g3,g4,g5,g6,g7⟩:=K3.o.c8 f0 f1 f2 f3 f4 f5 f6 f7;clear hHeld hWe c0 c1 c2 c3 c4 c5 c6 c7 q0 f0 f1 f2 f3 f4 f5 f6 f7;go_wp2_with fail
   refine rg (S:=fun w'=> w'.cell? ⟨B,2,none⟩=some (M (some ⟨b,off,none⟩) kids.length kc)∧w'.cell? ⟨pb,po,none⟩=some (H J i)∧w'.cell? ⟨b,off + i * 8,none⟩=some (H J op1)∧w'.cell? ⟨b,off + i * 8 + 1,none⟩=some (M sa1 set1.length sc1)∧w'.cell? ⟨b,off + i * 8 + 2,none⟩=some (M ka1 kids1.length kc1)∧w'.cell? ⟨b,off + i * 8 + 3,none⟩=some (H J mn1)∧w'.cell? ⟨b,off + i * 8 + 4,none⟩=some (H J mx1)∧w'.cell? ⟨b,off + i * 8 + 5,none⟩=some (H J mode1)∧w'.cell? ⟨b,off + i * 8 + 6,none⟩=some (H J n1)∧w'.cell? ⟨b,off + i * 8 + 7,none⟩=some (F neg1)) (fun _ k=> ⟨k.c v2,k.c t0,k.c g0,k.c g1,k.c g2,k.c g3,k.c g4,k.c g5,k.c g6,k.c g7⟩) fun kz hHeld=> ?_;refine tk 0 ?_;refine tk 1 ?_;refine tk 2 ?_;refine tk 3 ?_;refine tk 4 ?_;refine tk 5 ?_;refine tk 6 ?_;refine tk 7 ?_;refine tk 8 ?_;refine j6 9 fun K hK=> ?_;go_simp;refine Calls.mono (HCALL.o _ (HKX.o.trans K3.o.drew)) ?_;rintro e w8 ⟨q,rfl,hqt,hqo,hk8,hqf⟩;have E8:=gi (((Keeps.refl [] W).drew).trans hk8);have K8:=gi (K3.o.drew.trans hk8);have QT:=gi hqt;have QO:=gi hqo;have QF:=gi hqf;obtain ⟨q0,hq0⟩:∃ q0,q0=q:=⟨_,rfl⟩;rw [←hq0] at QT QO QF;have Q0:=gi hq0;clear hqt hqo hk8 hqf hq0;obtain ⟨op9,sa9,sc9,set9,ka9,kc9,kids9,mn9,mx9,mode9,n9,neg9⟩:=q;obtain ⟨er,her⟩:∃ er:Int,er=(if R.isSome then 0 else 7):=⟨_,rfl⟩;simp only [MRe.val,←her];have HER:=gi her;clear her;refine hK.out _ _ (kz.o _ E8.o) fun hHeld=> ?_;clear hK K;try go_frame
   refine tk 10 ?_;refine tk 11 ?_;obtain ⟨z0,z1,z2,z3,z4,z5,z6,z7,zf⟩:=zero_cells (K8.o.h HZ.o);have hfr:=swap_from (lo:=B + 2) (src:=(MRe.node op sa sc set (some ⟨b,off,none⟩) kc kids mn mx mode n neg).blocks) (add:=[]) (fun y hy=> by
    rcases QF.o y hy with h | h
    ·exact .inl (by rw [List.append_nil];exact HSRC.o y h)
    ·exact .inr h) (fun _ h=> by simp at h) (Nat.le_trans HXS.o K3.o.size)
   rw [Q0.o] at hfr;obtain ⟨hR,hok,hke,hfr2⟩:=rule_store HBE.o HKX.o K8.o HZ.o (by rw [←Q0.o];exact QO.o) hfr HLT.o;have H1:=gi hR;have H2:=gi hok;have H3:=gi hke;have H4:=gi hfr2;have KS:=gi (set8_keeps w8 (B + 1) (H J op9) (M sa9 set9.length sc9) (M ka9 kids9.length kc9) (H J mn9) (H J mx9) (H J mode9) (H J n9) (F neg9));have hpl:pb≠B + 1:=by have:=HPB.o;have:=HBE.o;omega
   have hbl:b≠B + 1:=by have:=HBB.o;have:=HBE.o;omega
   clear hfr hR hok hke hfr2;refine j6 12 fun K hK=> ?_;go_simp;refine hK.out _ _ (⟨KS.o.cell (E8.o.c v2) (by simp),KS.o.cell (E8.o.c t0) (by simp;exact hpl),KS.o.cell (E8.o.c g0) (by simp;exact hbl),KS.o.cell (E8.o.c g1) (by simp;exact hbl),KS.o.cell (E8.o.c g2) (by simp;exact hbl),KS.o.cell (E8.o.c g3) (by simp;exact hbl),KS.o.cell (E8.o.c g4) (by simp;exact hbl),KS.o.cell (E8.o.c g5) (by simp;exact hbl),KS.o.cell (E8.o.c g6) (by simp;exact hbl),KS.o.cell (E8.o.c g7) (by simp;exact hbl)⟩) (fun hHeld=> ?_);clear hK K;try go_frame
   refine tk 13 ?_;refine wd ?_;clear v2 t0 g0 g1 g2 g3 g4 g5 g6 g7 z0 z1 z2 z3 z4 z5 z6 z7 zf hHeld hpl hbl;go_wp2;refine rt H1.o ?_;exact ⟨.node op9 sa9 sc9 set9 ka9 kc9 kids9 mn9 mx9 mode9 n9 neg9,by rw [HER.o];rfl,by rw [←Q0.o,QT.o],H2.o,H3.o,H4.o⟩
  ·have HR:=gi (show R=none by rw [hR0,if_neg hx]);have hl0:((r.length:Int) + 1==0)=false:=by simp;omega
   clear hR0 k1
   by_cases hxn:x < 0
   ·have hxb:decide (x < 0)=true:=by simpa using hxn
    clear hx;obtain ⟨c0,c1,c2,c3,c4,c5,c6,c7⟩:=HC.o.cells0;go_enter Tryz.func10,Tryz.ntmps10
    go_upto_region 1 with fail
    rw [←HXE.o,←HBE.o];go_wp2_with fail
    refine rg (S:=fun w'=> w'.cell? ⟨B,2,none⟩=some (M ka kids.length kc)∧w'.cell? ⟨pb,po,none⟩=some (H J x)) (fun _ k=> ⟨k.c c2,k.c q0⟩) fun kz hHeld=> ?_;refine tk 0 ?_;refine tk 1 ?_;refine tk 2 ?_;refine tk 3 ?_;refine tk 4 ?_;refine tf 5 ?_;refine tf 6 ?_;refine tf 7 ?_;refine tf 8 ?_;refine tf 9 ?_;refine tf 10 ?_;refine tf 11 ?_;refine tk 12 ?_;refine wd ?_;obtain ⟨W,hWe⟩:∃ W,W=X.drew:=⟨_,rfl⟩;rw [←hWe];have K3:=gi (show Keeps [] X W by rw [hWe];exact (Keeps.refl [] X).drew);clear hHeld hWe c0 c1 c2 c3 c4 c5 c6 c7 q0;obtain ⟨z0,z1,z2,z3,z4,z5,z6,z7,zf,HR2,HK2⟩:=nn HBE.o HKX.o K3.o HZ.o;go_wp2;refine rt HR2.o ?_;exact AtPost.of_none HR.o rfl HK2.o
   ·have hxg:(kids.length:Int)≤x:=by omega
    have hxb:decide (x < 0)=false:=by simpa using hxn
    have hxc:decide ((kids.length:Int)≤x)=true:=by simpa using hxg
    clear hx;obtain ⟨c0,c1,c2,c3,c4,c5,c6,c7⟩:=HC.o.cells0;go_enter Tryz.func10,Tryz.ntmps10
    go_upto_region 1 with fail
    rw [←HXE.o,←HBE.o];go_wp2_with fail
    refine rg (S:=fun w'=> w'.cell? ⟨B,2,none⟩=some (M ka kids.length kc)∧w'.cell? ⟨pb,po,none⟩=some (H J x)) (fun _ k=> ⟨k.c c2,k.c q0⟩) fun kz hHeld=> ?_;refine tk 0 ?_;refine tk 1 ?_;refine tk 2 ?_;refine tk 3 ?_;refine tk 4 ?_;refine tk 5 ?_;refine tk 6 ?_;refine tk 7 ?_;refine tk 8 ?_;refine tk 9 ?_;refine tk 10 ?_;refine tk 11 ?_;refine tk 12 ?_;refine wd ?_;obtain ⟨W,hWe⟩:∃ W,W=X.drew:=⟨_,rfl⟩;rw [←hWe];have K3:=gi (show Keeps [] X W by rw [hWe];exact (Keeps.refl [] X).drew);clear hHeld hWe c0 c1 c2 c3 c4 c5 c6 c7 q0;obtain ⟨z0,z1,z2,z3,z4,z5,z6,z7,zf,HR2,HK2⟩:=nn HBE.o HKX.o K3.o HZ.o;go_wp2;refine rt HR2.o ?_;exact AtPost.of_none HR.o rfl HK2.o
def TreeFrom (w:World) (src:List Nat) (t:Tree) (e:Ending) (w':World):Prop:=∃ m:MRe,e=.returned m.val∧m.tree=t∧m.OK w'∧Keeps [] w w'∧From w.heap.size src m.blocks
theorem TreeFrom.of {w:World} {src:List Nat} {t:Tree} {e:Ending} {w':World} (r:MRe) (h:r.tree=t) (he:e=.returned r.val) (hr:r.OK w') (hk:Keeps [] w w') (hb:From w.heap.size src r.blocks):TreeFrom w src t e w':=⟨r,he,h,hr,hk,hb⟩
def setKids:Tree→List Tree→Tree
 | .node op set _ mn mx mode n neg,ks=> .node op set ks mn mx mode n neg
def putT:Tree→List Int→Tree→Option Tree
 | _,[],p=> some p
 | t,x::r,p=> if 0≤x∧x < t.kids.length then (putT (t.kids.getD x.toNat .nil) r p).map fun k=> setKids t (t.kids.take x.toNat ++ (k::t.kids.drop (x.toNat + 1))) else none
theorem putT_bulk {p:Tree}:∀ (path:List Int) {t q:Tree},putT t path p=some q→q.bulk≤t.bulk + p.bulk:=by
 intro path
 induction path with
 | nil=> intro t q h;simp only [putT,Option.some.injEq] at h;subst h;omega
 | cons x r ih=>
  intro t q h;rw [putT] at h
  split at h
  ·rename_i hx
   obtain ⟨k,hk,rfl⟩:=Option.map_eq_some_iff.1 h;have hi:x.toNat < t.kids.length:=by omega
   rw [List.getD_eq_getElem?_getD,List.getElem?_eq_getElem hi,Option.getD_some] at hk
   have:=ih hk
   cases t with
   | node op set kids mn mx mode n neg=>
    simp only [Tree.kids] at hi this ⊢;have e1:=Tree.bulks_take_drop kids x.toNat;rw [List.drop_eq_getElem_cons hi] at e1;simp only [setKids,Tree.bulk,Tree.bulks_append,Tree.bulks] at e1 ⊢;omega
  ·cases h
mutual
def pathsT:Tree→List (List Int)
 | .node _ _ kids _ _ _ _ _=> []::pathsTs 0 kids
def pathsTs:Int→List Tree→List (List Int)
 | _,[]=> []
 | i,k::ks=> (pathsT k).map (fun p=> i::p) ++ pathsTs (i + 1) ks
end
theorem pathsTs_take:∀ (l:List Tree) (i:Int) (k:Nat) (h:k < l.length),pathsTs i (l.take (k + 1))=pathsTs i (l.take k) ++ (pathsT l[k]).map fun p=> (i + k)::p:=by
 intro l
 induction l with
 | nil=> intro i k h;simp at h
 | cons x r ih=>
  intro i k h
  cases k with
  | zero=> simp [pathsTs]
  | succ n=>
   have:=ih (i + 1) n (by simpa using h)
   simp only [List.take_succ_cons,pathsTs,this,List.getElem_cons_succ,List.append_assoc];have e:i + 1 + (n:Int)=i + ((n + 1:Nat):Int):=by omega
   rw [e]
theorem paths_length:∀ t:Tree,(pathsT t).length=sizeT t∧∀ p∈pathsT t,p.length≤t.bulk:=by
 intro t
 induction t using Tree.induct with
 | h op set kids mn mx mode n neg ih=>
  have hs:∀ (l:List Tree) (i:Int),(∀ k∈l,(pathsT k).length=sizeT k∧∀ p∈pathsT k,p.length≤k.bulk)→(pathsTs i l).length=sizeTs l∧∀ p∈pathsTs i l,p.length≤Tree.bulks l + 1:=by
   intro l
   induction l with
   | nil=> intro i _;exact ⟨rfl,by simp [pathsTs]⟩
   | cons x r ih2=>
    intro i h;obtain ⟨h1,h2⟩:=h x (by simp);obtain ⟨h3,h4⟩:=ih2 (i + 1) (fun k hk=> h k (by simp [hk]));refine ⟨by simp only [pathsTs,List.length_append,List.length_map,h1,h3,sizeTs],fun p hp=> ?_⟩;simp only [pathsTs,List.mem_append,List.mem_map] at hp;simp only [Tree.bulks]
    rcases hp with ⟨q,hq,rfl⟩ | hp
    ·have:=h2 q hq;simp only [List.length_cons];omega
    ·have:=h4 p hp;omega
  obtain ⟨h1,h2⟩:=hs kids 0 ih;refine ⟨by simp only [pathsT,List.length_cons,h1,sizeT];omega,fun p hp=> ?_⟩;simp only [pathsT,List.mem_cons] at hp;simp only [Tree.bulk]
  rcases hp with rfl | hp
  ·simp
  ·have:=h2 p hp;omega
structure NodeQ (op:Int) (set:List (Int × Int)) (nk:Nat) (mn:Int):Prop where
 hop:0≤op∧op≤11
 hone:op=4∨op=5∨op=7∨op=8∨op=9→nk=1
 hrep:op=4→0≤mn
 hset:op=1→SpansOK set
 hnset:op≠1→set=[]
inductive Tree.WFq:Tree→Prop
 | mk {op set kids mn mx mode n neg} (h:NodeQ op set kids.length mn) (hk:∀ k,k∈kids→Tree.WFq k):Tree.WFq (.node op set kids mn mx mode n neg)
theorem Tree.WFq.node {op set kids mn mx mode n neg} (h:Tree.WFq (.node op set kids mn mx mode n neg)):NodeQ op set kids.length mn:=by cases h;assumption
theorem Tree.WFq.kid {op set kids mn mx mode n neg} (h:Tree.WFq (.node op set kids mn mx mode n neg)) {k:Tree} (hk:k∈kids):k.WFq:=by cases h with | mk _ h=> exact h k hk
theorem wfq_node {op sa sc set ka kc kids mn mx mode n neg} (h:(MRe.node op sa sc set ka kc kids mn mx mode n neg).tree.WFq):NodeQ op set kids.length mn:=by
 have:=h.node
 rw [MRe.trees_length] at this;exact this
theorem wfq_kid {op sa sc set ka kc kids mn mx mode n neg} (h:(MRe.node op sa sc set ka kc kids mn mx mode n neg).tree.WFq) {k:MRe} (hk:k∈kids):k.tree.WFq:=
 h.kid (by rw [MRe.trees_eq];exact List.mem_map_of_mem hk)
theorem Tree.WF.q {t:Tree} (h:t.WF):t.WFq:=by
 induction t using Tree.induct with
 | h op set kids mn mx mode n neg ih=>
  have hn:=h.node;exact .mk ⟨hn.hop,hn.hone,fun h4=> (hn.hrep h4).1,fun h1=> (hn.hset h1).1,hn.hnset⟩ fun k hk=> ih k hk (h.kid hk)
theorem rnull_any (m:MRe):∀ (w:World),m.OK w→m.tree.WFq→
  Calls Tryz.prog 52 #[m.val] w fun e w'=> e=.returned (F (nullP m.tree))∧Keeps [] w w':=by
 induction m using MRe.induct with
 | h op sa sc set ka kc kids mn mx mode n neg ih=>
  intro w k1 f1;obtain ⟨R,hR0⟩:∃ R,R=nullP (MRe.tree (.node op sa sc set ka kc kids mn mx mode n neg)):=⟨_,rfl⟩;rw [←hR0];replace hR0:R=if op=0∨op=6∨op=7∨op=8∨op=11 then true else if op=2 then nullAll (MRe.trees kids) else if op=4∧mn=0 then true else if op=4∨op=3∨op=10∨op=5∨op=9 then nullAny (MRe.trees kids) else false:=by rw [hR0];simp only [MRe.tree,nullP]
  have hno:=wfq_node f1;have HI:=gi (fun k (hk:k∈kids) W (h:Keeps [] w W)=> ih k hk W ((k1.kid hk).keep h) (wfq_kid f1 hk));have hcap:=k1.nodes.cap;have hle:=k1.nodes.le;unfold maxLen at hcap;have HK:=gi k1.kids;simp only [MRe.val];obtain ⟨B,Y,c0,c1,c2,c3,c4,c5,c6,c7,HYE,HBE,KY⟩:=pre1 w op sa sc set ka kc kids mn mx mode n neg;clear ih k1 f1
  by_cases h1:op=1
  ·subst h1;have HR:=gi (show R=false by rw [hR0];simp);clear hR0 hno;go_enter Tryz.func52,Tryz.ntmps52
   go_upto_region 1 with fail
   rw [←HYE.o,←HBE.o];go_wp2;go_ret;exact ⟨by rw [HR.o];rfl,KY.o⟩
  ·by_cases h2:op=2
   ·subst h2;have HR0:=gi (show R=(MRe.trees kids).all nullP by rw [hR0,←nullAll_iff];simp);clear hR0 hno h1;go_enter Tryz.func52,Tryz.ntmps52
    go_upto_region 1 with fail
    rw [←HYE.o,←HBE.o];go_wp2
    go_loopw [3] (fun i wr=> ∃ k:Nat,k≤kids.length∧i=H J k∧(∀ x∈(MRe.trees kids).take k,nullP x=true)∧Keeps [] Y wr) (fun i _=> kids.length - (intOf i).toNat)
    case atStart=> exact ⟨0,Nat.zero_le _,rfl,by simp,Keeps.refl _ _⟩
    case round=>
     obtain ⟨k,hkk,rfl,hpk,hkp⟩:=hrel;have HP:=gi hpk;have HKP:=gi hkp;have y2:=hkp.c c2;clear hpk hkp c0 c1 c2 c3 c4 c5 c6 c7
     by_cases hlt:k < kids.length
     ·obtain ⟨b,off,rfl,hb,hx⟩:=(HK.o.keep (KY.o.trans HKP.o)).nodes.kid (by omega);have hx0:=hx k hlt;have HC:=gi (HI.o kids[k] (List.getElem_mem hlt) wr (KY.o.trans HKP.o));have hlt':k < (MRe.trees kids).length:=by rw [MRe.trees_length];exact hlt
      have hn:=fun h=> take_succ_all (p:=nullP) hlt' HP.o h;have hf:=fun h=> all_false (p:=nullP) hlt' h;rw [trees_getElem kids k hlt] at hn hf;have HN:=gi hn;have HF:=gi hf
      generalize kids[k]=m at *
      obtain ⟨q,hq⟩:∃ q,q=nullP m.tree:=⟨_,rfl⟩;rw [←hq] at HC HN HF;obtain ⟨op1,sa1,sc1,set1,ka1,kc1,kids1,mn1,mx1,mode1,n1,neg1⟩:=m;have g:=hx0.node;obtain ⟨e0,e1,e2,e3,e4,e5,e6,e7⟩:=id g;simp only [MRe.val] at HC;clear g hx0 hx hq hn hf;go_wp2_with fail
      refine Calls.mono HC.o ?_;rintro e w3 ⟨rfl,hk3⟩;have K3:=gi (HKP.o.trans hk3);clear hk3
      cases q with
      | true=>
       have HN2:=gi (HN.o rfl);go_wp2;go_roundw
       case rel=> exact ⟨k + 1,by omega,by go_num,HN2.o,K3.o⟩
       case measure=> simp [intOf];omega
      | false=>
       have HF2:=gi (HF.o rfl);go_wp2;go_ret;exact ⟨by rw [HR0.o,HF2.o];rfl,KY.o.trans K3.o⟩
     ·obtain rfl:k=kids.length:=by omega
      have h0:=all_true (p:=nullP) (l:=MRe.trees kids) (by rw [MRe.trees_length];exact HP.o);have H0:=gi h0;clear h0;go_wp2;go_ret;exact ⟨by rw [HR0.o,H0.o];rfl,KY.o.trans HKP.o⟩
   ·by_cases hA:op=3∨op=10
    ·have HR0:=gi (show R=(MRe.trees kids).any nullP by rw [hR0,←nullAny_iff];rcases hA with rfl | rfl <;> simp);clear hR0 hno h1 h2
     rcases hA with rfl | rfl
     all_goals
      go_enter Tryz.func52,Tryz.ntmps52
      go_upto_region 1 with fail
      rw [←HYE.o,←HBE.o];go_wp2
      go_loopw [4] (fun i wr=> ∃ k:Nat,k≤kids.length∧i=H J k∧(∀ x∈(MRe.trees kids).take k,nullP x=false)∧Keeps [] Y wr) (fun i _=> kids.length - (intOf i).toNat)
      case atStart=> exact ⟨0,Nat.zero_le _,rfl,by simp,Keeps.refl _ _⟩
      case round=>
       obtain ⟨k,hkk,rfl,hpk,hkp⟩:=hrel;have HP:=gi hpk;have HKP:=gi hkp;have y2:=hkp.c c2;clear hpk hkp c0 c1 c2 c3 c4 c5 c6 c7
       by_cases hlt:k < kids.length
       ·obtain ⟨b,off,rfl,hb,hx⟩:=(HK.o.keep (KY.o.trans HKP.o)).nodes.kid (by omega);have hx0:=hx k hlt;have HC:=gi (HI.o kids[k] (List.getElem_mem hlt) wr (KY.o.trans HKP.o));have hlt':k < (MRe.trees kids).length:=by rw [MRe.trees_length];exact hlt
        have hn:=fun h=> take_all (p:=nullP) hlt' HP.o h;have hf:=fun h=> any_true (p:=nullP) hlt' h;rw [trees_getElem kids k hlt] at hn hf;have HN:=gi hn;have HF:=gi hf
        generalize kids[k]=m at *
        obtain ⟨q,hq⟩:∃ q,q=nullP m.tree:=⟨_,rfl⟩;rw [←hq] at HC HN HF;obtain ⟨op1,sa1,sc1,set1,ka1,kc1,kids1,mn1,mx1,mode1,n1,neg1⟩:=m;have g:=hx0.node;obtain ⟨e0,e1,e2,e3,e4,e5,e6,e7⟩:=id g;simp only [MRe.val] at HC;clear g hx0 hx hq hn hf;go_wp2_with fail
        refine Calls.mono HC.o ?_;rintro e w3 ⟨rfl,hk3⟩;have K3:=gi (HKP.o.trans hk3);clear hk3
        cases q with
        | false=>
         have HN2:=gi (HN.o rfl);go_wp2;go_roundw
         case rel=> exact ⟨k + 1,by omega,by go_num,HN2.o,K3.o⟩
         case measure=> simp [intOf];omega
        | true=>
         have HF2:=gi (HF.o rfl);go_wp2;go_ret;exact ⟨by rw [HR0.o,HF2.o];rfl,KY.o.trans K3.o⟩
       ·obtain rfl:k=kids.length:=by omega
        have h0:=any_false (p:=nullP) (l:=MRe.trees kids) (by rw [MRe.trees_length];exact HP.o);have H0:=gi h0;clear h0;go_wp2;go_ret;exact ⟨by rw [HR0.o,H0.o];rfl,KY.o.trans HKP.o⟩
    ·by_cases hB:op=4∨op=5∨op=9
     ·have hlen0:kids.length=1:=hno.hone (by rcases hB with h | h | h <;> simp [h]);have hln0:0 < kids.length:=by omega
      have hln:(0:Int) < (kids.length:Int):=by omega
      obtain ⟨b1,o1,k0,rfl,hk0m,hk00,hk0a,hk0o⟩:=HK.o.head hln0;obtain ⟨r,hr⟩:=trees_head hk00;have hr0:r=[]:=by
       have h:=congrArg List.length hr;rw [MRe.trees_length,hlen0] at h;simp at h;exact h
      have hg:nullAny (MRe.trees kids)=nullP k0.tree:=by rw [hr,hr0];simp [nullAny]
      rw [hg] at hR0;have HC:=HI.o k0 hk0m;obtain ⟨q,hq⟩:∃ q,q=nullP k0.tree:=⟨_,rfl⟩;simp only [←hq] at HC hR0;obtain ⟨op1,sa1,sc1,set1,ka1,kc1,kids1,mn1,mx1,mode1,n1,neg1⟩:=k0;have g:=hk0a.node;obtain ⟨e0,e1,e2,e3,e4,e5,e6,e7⟩:=id g;obtain ⟨d0,d1,d2,d3,d4,d5,d6,d7⟩:=KY.o.c8 e0 e1 e2 e3 e4 e5 e6 e7;simp only [MRe.val] at HC;have HC:=gi HC;have HNO:=gi hno;clear g e0 e1 e2 e3 e4 e5 e6 e7 hk0m hk00 hk0a hk0o hr hr0 hg hq hlen0 hno h1 h2 hA
      rcases hB with rfl | rfl | rfl
      ·by_cases m0:mn=0
       ·subst m0;have HR:=gi (show R=true by rw [hR0];simp);clear hR0;go_enter Tryz.func52,Tryz.ntmps52
        go_upto_region 1 with fail
        rw [←HYE.o,←HBE.o];go_wp2;go_ret;exact ⟨by rw [HR.o];rfl,KY.o⟩
       ·have HR:=gi (show R=q by rw [hR0];simp [m0]);have hm:=HNO.o.hrep rfl;have hm0:¬ mn≤0:=by omega
        clear hR0 hm;go_enter Tryz.func52,Tryz.ntmps52
        go_upto_region 1 with fail
        rw [←HYE.o,←HBE.o];go_wp2_with fail
        refine Calls.mono (HC.o _ KY.o) ?_;rintro e w3 ⟨rfl,hk3⟩;have K3:=gi (KY.o.trans hk3);clear hk3;go_wp2;go_ret;exact ⟨by rw [HR.o];rfl,K3.o⟩
      all_goals
       have HR:=gi (show R=q by rw [hR0];simp);clear hR0;go_enter Tryz.func52,Tryz.ntmps52
       go_upto_region 1 with fail
       rw [←HYE.o,←HBE.o];go_wp2_with fail
       refine Calls.mono (HC.o _ KY.o) ?_;rintro e w3 ⟨rfl,hk3⟩;have K3:=gi (KY.o.trans hk3);clear hk3;go_wp2;go_ret;exact ⟨by rw [HR.o];rfl,K3.o⟩
     ·have ho:op=0∨op=6∨op=7∨op=8∨op=11:=by
       have:=hno.hop
       omega
      have HR:=gi (show R=true by rw [hR0,if_pos ho]);clear hR0 hno hA hB h1 h2
      rcases ho with rfl | rfl | rfl | rfl | rfl
      all_goals
       go_enter Tryz.func52,Tryz.ntmps52
       go_upto_region 1 with fail
       rw [←HYE.o,←HBE.o];go_wp2;go_ret;exact ⟨by rw [HR.o];rfl,KY.o⟩
theorem oper_append_any {P:Program} {o:Oper} {A:Act} {w:World} {K:Act→World→Prop} {Q:Exit→Act→World→Prop}
  (s x:Operand) (t:TypeId) (hop:o.op=Op.call {callee:=Callee.builtin Builtin.append,args:=#[s,x],argTypes:=#[t,t]})
  (e:TypeId) (i:TypeInfo) (z:Value) (size bytes:Nat) (ht:P.underlying t=some (.slice e)) (hi:P.info? e=some i) (hz:i.zero=some z)
  (hsize:i.size=size) (hby:i.bytes=bytes) (hzs:z.cells.size=size) (hsz:0 < size)
  (a:Option Nat) (n c:Nat) (xs:List Value) (hs:A.eval s=sv a n c) (hown:SliceAt w e size a n c xs)
  (xa:Option Addr) (m cc:Nat) (news:List Value) (hx:A.eval x=M xa m cc) (hl:news.length=m * size) (hnews:0 < m→∃ ad,xa=some ad∧∀ j u,news[j]? =some u→w.cell? (ad.add j)=some u) (h1:∀ u∈news,u.oneCell'=true)
  (hlen:n + m≤140737488355328) (hbytes:(n + m) * bytes≤140737488355328)
  (h:∀ a' c' w',SliceAt w' e size a' (n + m) c' (xs ++ news)→Keeps a.toList w w'→(a'=a∨∃ g,a'=some g∧w.heap.size≤g)→K (A.put o.dst (sv a' (n + m) c')) w'):
  Oper.wp P o A w K Q:=by
 obtain ⟨a',c',w',hr,h2,h3,h4⟩:=run_append_any (P:=P) w t o.type e i z size bytes ht hi hz hsize hby hzs hsz a n c xs hown xa m cc news hl hnews h1 hlen hbytes;unfold Oper.wp execOp;simp only [hop,resolve,invoke,builtin,Sem.run_bind,Sem.run_pure,Result.andThen_ok,List.map_toArray,List.map_cons,List.map_nil,hs,hx,hr];exact h a' c' w' h2 h3 h4
theorem SliceAt.src {w:World} {e:Nat} {a:Option Nat} {n c:Nat} {xs:List Value} (h:SliceAt w e 1 a n c xs):0 < n→∃ ad,(a.map fun g=> (⟨g,0,none⟩:Addr))=some ad∧∀ j u,xs[j]? =some u→w.cell? (ad.add j)=some u:=fun h0=> by
 cases a with
 | none=> obtain ⟨_,h2,_⟩:=h;omega
 | some g=>
  refine ⟨⟨g,0,none⟩,rfl,fun j u hu=> ?_⟩;obtain ⟨hj,hu⟩:=List.getElem?_eq_some_iff.1 hu;rw [add_none,Nat.zero_add,h.cell j hj,hu]
theorem ints_one (xs:List Int):∀ u∈xs.map (H J),u.oneCell'=true:=by
 intro u hu;obtain ⟨x,_,rfl⟩:=List.mem_map.1 hu
 rfl
end Go.Proofs.YtjnlkjlbejelgaaGreat
