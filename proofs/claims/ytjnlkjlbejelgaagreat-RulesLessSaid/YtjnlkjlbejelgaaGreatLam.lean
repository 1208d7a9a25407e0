/- Part 13 of the proof. No condition: every lemma says its own. -/
import Derived.Test.YtjnlkjlbejelgaaGreatLal
namespace Go.Proofs.YtjnlkjlbejelgaaGreat
open Go.RowKit
open Go.Value renaming int→H,slice→M,bool→F
open Go.IntKind renaming i64→J
set_option maxRecDepth 100000
set_option maxHeartbeats 16000000
def endsF (l:List (Int × Int)):List Int:=l.flatMap fun s=> [s.1,s.2 + 1]
theorem endsF_length (l:List (Int × Int)):(endsF l).length=2 * l.length:=by
 induction l with
 | nil=> rfl
 | cons k ks ih=> simp only [endsF,List.flatMap_cons,List.length_append,List.length_cons,List.length_nil] at ih ⊢;omega
theorem endsF_append (a b:List (Int × Int)):endsF (a ++ b)=endsF a ++ endsF b:=by simp [endsF]
def adv (l:List (Int × Int)) (n:Nat) (x:Int):Nat:=n + ((l.drop n).takeWhile fun s=> decide (s.2 < x)).length
def inb (l:List (Int × Int)) (n:Nat) (x:Int):Bool:=match l[n]? with | some s=> decide (s.1≤x) | none=> false
def comb (kp:Bool→Bool→Bool) (A B:List (Int × Int)):List Int→Nat→Nat→List (Int × Int)→List (Int × Int)
 | x::y::r,n0,n1,out=> comb kp A B (y::r) (adv A n0 x) (adv B n1 x) (if kp (inb A (adv A n0 x) x) (inb B (adv B n1 x) x)=true then addP out (x,y - 1) else out)
 | _,_,_,out=> out
def endsP (A B:List (Int × Int)):List Int:=Lib.compact ((endsF (A ++ B)).mergeSort fun x y=> decide (x≤y))
def combP (kp:Bool→Bool→Bool) (A B:List (Int × Int)):List (Int × Int):=comb kp A B (endsP A B) 0 0 []
theorem adv_step (l:List (Int × Int)) (n:Nat) (x:Int) (h:n < l.length) (hx:l[n].2 < x):adv l n x=adv l (n + 1) x:=by
 unfold adv;rw [List.drop_eq_getElem_cons h,List.takeWhile_cons_of_pos (by simpa using hx),List.length_cons];omega
theorem adv_stop (l:List (Int × Int)) (n:Nat) (x:Int) (h:∀ (h:n < l.length),¬ l[n].2 < x):adv l n x=n:=by
 unfold adv
 by_cases hl:n < l.length
 ·rw [List.drop_eq_getElem_cons hl,List.takeWhile_cons_of_neg (by simpa using h hl)];rfl
 ·rw [List.drop_of_length_le (by omega)];rfl
def pre (A B:List (Int × Int)):Nat→List (Int × Int)
 | 0=> []
 | 1=> A
 | _=> A ++ B
structure Lists (w:World) (G:Nat) (aa:Option Addr) (ac:Nat) (A:List (Int × Int)) (ba:Option Addr) (bc:Nat) (B:List (Int × Int)):Prop where
 c0:w.cell? ⟨G,0,none⟩=some (M aa A.length ac)
 c1:w.cell? ⟨G,1,none⟩=some (M ba B.length bc)
 s0:SpansIn w aa ac A
 s1:SpansIn w ba bc B
theorem Lists.keep {w w':World} {G aa ac A ba bc B} (h:Lists w G aa ac A ba bc B) (k:Keeps [] w w'):Lists w' G aa ac A ba bc B:=
 ⟨k.cell h.c0 (by simp),k.cell h.c1 (by simp),h.s0.keep k,h.s1.keep k⟩
theorem Lists.at_ {w:World} {G aa ac A ba bc B} (h:Lists w G aa ac A ba bc B) (j:Nat) (hj:j < 2):∃ la lc l,w.cell? ⟨G,j,none⟩=some (M la l.length lc)∧SpansIn w la lc l∧pre A B (j + 1)=pre A B j ++ l∧(j=0→l=A)∧(j=1→l=B)∧(l=A∨l=B):=by
 have:j=0∨j=1:=by omega
 rcases this with rfl | rfl
 ·exact ⟨aa,ac,A,h.c0,h.s0,rfl,fun _=> rfl,fun h=> by omega,.inl rfl⟩
 ·exact ⟨ba,bc,B,h.c1,h.s1,rfl,fun h=> by omega,fun _=> rfl,.inr rfl⟩
theorem infoI:(Tryz.prog.info? 3).map (fun i=> (i.zero,i.size,i.bytes))=some (some (H J 0),1,8):=by kernel_rfl
theorem infoB:(Tryz.prog.info? 4).map (fun i=> (i.zero,i.size,i.bytes))=some (some (F false),1,1):=by kernel_rfl
theorem comb_end (kp:Bool→Bool→Bool) (A B:List (Int × Int)) (l:List Int) (h:l.length≤1) (n0 n1:Nat) (out:List (Int × Int)):comb kp A B l n0 n1 out=out:=by
 match l,h with
 | [],_=> rfl
 | [_],_=> rfl
theorem compact_mem {zs:List Int} {x:Int} (h:x∈Lib.compact zs):x∈zs:=by
 unfold Lib.compact Lib.compactUpTo at h;obtain ⟨j,hj,rfl⟩:=List.mem_map.1 h;have hj':j < zs.length:=by have:=(List.mem_filter.1 hj).1;simpa using this
 simp [hj']
theorem ends_small {A B:List (Int × Int)} (ha:∀ i (h:i < A.length),0≤A[i].1∧A[i].1≤A[i].2∧A[i].2≤1114111) (hb:∀ i (h:i < B.length),0≤B[i].1∧B[i].1≤B[i].2∧B[i].2≤1114111):∀ e∈endsP A B,0≤e∧e≤1114112:=by
 intro e he;have h1:=List.mem_mergeSort.1 (compact_mem he);obtain ⟨s,hs,hes⟩:=List.mem_flatMap.1 h1;have h2:0≤s.1∧s.1≤s.2∧s.2≤1114111:=by
  rcases List.mem_append.1 hs with h | h
  ·obtain ⟨i,hi,rfl⟩:=List.mem_iff_getElem.1 h;exact ha i hi
  ·obtain ⟨i,hi,rfl⟩:=List.mem_iff_getElem.1 h;exact hb i hi
 simp only [List.mem_cons,List.not_mem_nil,or_false] at hes
 rcases hes with rfl | rfl <;> omega
theorem adv_le (l:List (Int × Int)) (n:Nat) (x:Int) (h:n≤l.length):adv l n x≤l.length:=by
 unfold adv;have h1:=(List.takeWhile_sublist (fun s:Int × Int=> decide (s.2 < x)) (l:=l.drop n)).length_le;rw [List.length_drop] at h1;omega
theorem addP_bound {l:List (Int × Int)} {s:Int × Int} (h:∀ z∈l,-10≤z.2∧z.2≤10000000) (hs:-10≤s.2∧s.2≤10000000):∀ z∈addP l s,-10≤z.2∧z.2≤10000000:=by
 rcases List.eq_nil_or_concat l with rfl | ⟨ll,z,hl⟩
 ·rw [addP_nil];intro z hz;simp at hz;subst hz;exact hs
 ·rw [List.concat_eq_append] at hl;subst hl;have hz:=h z (by simp)
  by_cases hc:s.1≤z.2 + 1
  ·rw [addP_in _ _ _ hc];intro y hy
   rcases List.mem_append.1 hy with hy | hy
   ·exact h y (by simp [hy])
   ·simp at hy;subst hy;simp only;omega
  ·rw [addP_out _ _ _ hc];intro y hy
   rcases List.mem_append.1 hy with hy | hy
   ·exact h y hy
   ·simp at hy;subst hy;exact hs
theorem addP_length (l:List (Int × Int)) (s:Int × Int):(addP l s).length≤l.length + 1:=by
 rcases List.eq_nil_or_concat l with rfl | ⟨ll,z,hl⟩
 ·simp [addP]
 ·rw [List.concat_eq_append] at hl;subst hl
  by_cases hc:s.1≤z.2 + 1
  ·rw [addP_in _ _ _ hc];simp
  ·rw [addP_out _ _ _ hc];simp
theorem two_row {w:World} {g T:Nat} {a b:Value} (h:w.heap[g]? =some (.cells #[a,b] T (0,0))):w.cell? ⟨g,0,none⟩=some a∧w.cell? ⟨g,1,none⟩=some b∧∀ o,w.frozen? ⟨g,o,none⟩=false:=by
 simp [World.cell?,World.frozen?,h]
theorem inb_at {l:List (Int × Int)} {n:Nat} {x:Int} (h:n < l.length):inb l n x=decide (l[n].1≤x):=by
 simp [inb,h]
theorem inb_none {l:List (Int × Int)} {n:Nat} {x:Int} (h:¬ n < l.length):inb l n x=false:=by
 simp [inb,h]
def cellNat (w:World) (a:Addr):Nat:=match w.cell? a with | some (.int _ x)=> x.toNat | _=> 0
theorem make_two {T E:Nat} {z:Value} {bytes:Nat} (ht:Tryz.prog.underlying T=some (.slice E)) (hi:(Tryz.prog.info? E).map (fun i=> (i.zero,i.size,i.bytes))=some (some z,1,bytes)) (hz:z.cells=#[z]) (hb:bytes≤8) (W:World):
  (Instr.makeSlice T (H J 2) (H J 2)).run Tryz.prog W=.ok (M (some ⟨W.heap.size,0,none⟩) 2 2) (W.alloc (.cells #[z,z] E)):=by
 obtain ⟨i0,hi0,hz0,hz1,hz2⟩:=info_parts hi;have h:=run_make (P:=Tryz.prog) W T E i0 z ht hi0 hz0 .i64 .i64 2 2 (by omega) (Int.le_refl _) (by rw [hz2];omega) (by omega);rw [h,hz,madeCells_one,hz1,show (2:Int).toNat=2 by decide]
 rfl
theorem combine_any (K:Nat) (kp:Bool→Bool→Bool) (G:Nat) (aa ba:Option Addr) (ac bc:Nat) (A B:List (Int × Int)) (w:World) (he:Enters K)
  (hkp:∀ (g c:Nat) (b0 b1:Bool) (W:World),W.cell? ⟨g,0,none⟩=some (F b0)→W.cell? ⟨g,1,none⟩=some (F b1)→Calls Tryz.prog K #[M (some ⟨g,0,none⟩) 2 c] W fun e w'=> e=.returned (F (kp b0 b1))∧w'=W)
  (hl:Lists w G aa ac A ba bc B) (ha:SpansOK A) (hb:SpansOK B) (hal:A.length≤64) (hbl:B.length≤64) (hne:A ++ B≠[]):
  Calls Tryz.prog 151 #[.func (Fn.func K) #[] #[],M (some ⟨G,0,none⟩) 2 2] w fun e w'=> ∃ (a:Option Nat) (c:Nat),e=.returned (sv a (combP kp A B).length c)∧SliceAt w' 86 2 a (combP kp A B).length c (flatP (combP kp A B))∧Keeps [] w w'∧∀ g,a=some g→w.heap.size≤g:=by
 obtain ⟨i0,hi0,hz0,hz1,hz2⟩:=info_parts infoI;have Hi:=gi hi0;have Hz0:=gi hz0;have Hz1:=gi hz1;have Hz2:=gi hz2;clear hi0 hz0 hz1 hz2;unfold Enters at he;have HKP:=gi hkp;have HL:=gi hl;have HA:=gi ha.bounds;have HB:=gi hb.bounds;have HNE:=gi hne;have HAL:=gi hal;have HBL:=gi hbl;have h2:(2:Int)=((2:Nat):Int):=rfl;clear hkp hl ha hb hne h2 hal hbl;go_enter Tryz.func151,Tryz.ntmps151
 go_wp2
 go_loopw [5,19] (fun v i wr=> ∃ (j:Nat) (a':Option Nat) (c':Nat),j≤2∧i=H J j∧v=sv a' (endsF (pre A B j)).length c'∧SliceAt wr 3 1 a' (endsF (pre A B j)).length c' ((endsF (pre A B j)).map (H J))∧Keeps [] w wr∧∀ g,a'=some g→w.heap.size≤g) (fun _ i _=> 2 - (intOf i).toNat)
 case atStart=> exact ⟨0,none,0,by omega,rfl,rfl,SliceAt.nil _ _ _,Keeps.refl _ _,by simp⟩
 case round=>
  obtain ⟨j,a',c',hj,rfl,rfl,hsl,hkw,hga⟩:=hrel;have HSL:=gi hsl;have HKW:=gi hkw;have HGA:=gi hga;clear hsl hkw hga
  by_cases hlt:j < 2
  ·obtain ⟨la,lc,l,hc0,hsp,hpre,hj0,hj1,hlab⟩:=HL.o.at_ j hlt;have hc:=HKW.o.c hc0;clear hc0;have hlb:∀ i (h:i < l.length),0≤l[i].1∧l[i].1≤l[i].2∧l[i].2≤1114111:=by
    rcases hlab with rfl | rfl
    ·exact HA.o
    ·exact HB.o
   have hll:l.length≤64:=by
    rcases hlab with rfl | rfl
    ·exact HAL.o
    ·exact HBL.o
   have hpl:(pre A B j).length≤128:=by
    have h1:=HAL.o;have h2:=HBL.o
    have:j=0∨j=1:=by omega
    rcases this with rfl | rfl
    ·simp [pre]
    ·show A.length≤128;omega
   have HSP:=gi hsp;have HSP0:=gi hsp;have HPR:=gi hpre;have HLB:=gi hlb;have HPL:=gi hpl;have hlti:(j:Int) < 2:=by omega
   obtain ⟨P,hP⟩:∃ P,P=pre A B j:=⟨_,rfl⟩;rw [←hP] at HSL HPR HPL ⊢;have HP:=gi hP;clear hsp hpre hlb hpl hj0 hj1 hlab hP;go_wp2
   go_loopw [5,25] (fun v i wq=> ∃ (k:Nat) (a2:Option Nat) (c2:Nat),k≤l.length∧i=H J k∧v=sv a2 (endsF (P ++ l.take k)).length c2∧SliceAt wq 3 1 a2 (endsF (P ++ l.take k)).length c2 ((endsF (P ++ l.take k)).map (H J))∧Keeps [] w wq∧∀ g,a2=some g→w.heap.size≤g) (fun _ i _=> l.length - (intOf i).toNat)
   case atStart=> exact ⟨0,a',c',by omega,rfl,by rw [List.take_zero,List.append_nil],by rw [List.take_zero,List.append_nil];exact HSL.o,HKW.o,HGA.o⟩
   case round=>
    obtain ⟨k,a2,c2,hk,rfl,rfl,hsl2,hkq,hga2⟩:=hrel;have HS2:=gi hsl2;have HKQ:=gi hkq;have HG2:=gi hga2;clear hsl2 hga2 hc
    by_cases hlk:k < l.length
    ·obtain ⟨b,off,rfl,hbb,hx⟩:=(HSP0.o.keep hkq).at_ (by have:=HSP.o.le;omega);obtain ⟨x0,x1⟩:=hx k hlk;obtain ⟨o1,o2,o3⟩:=HLB.o k hlk;have hft:l.take (k + 1)=l.take k ++ [l[k]]:=List.take_succ_eq_append_getElem hlk
     generalize l[k]=s at *
     obtain ⟨lo,hi⟩:=s;simp only at x0 x1 o1 o2 o3;have hef:endsF (P ++ l.take (k + 1))=endsF (P ++ l.take k) ++ [lo,hi + 1]:=by
      rw [hft,←List.append_assoc,endsF_append (P ++ l.take k)];rfl
     have HEF:=gi hef;obtain ⟨E,hE⟩:∃ E,E=endsF (P ++ l.take k):=⟨_,rfl⟩;have hEl:E.length≤100000:=by
      have h1:=HPL.o;rw [hE,endsF_length,List.length_append,List.length_take];omega
     rw [←hE] at HS2 HEF ⊢;have hw1:IntKind.i64.wrap (hi + 1)=hi + 1:=IntWalk.i64_in _ (by omega);obtain ⟨n,hn⟩:∃ n,n=E.length:=⟨_,rfl⟩;rw [←hn] at HS2 hEl ⊢;have HN:=gi hn;clear hx hft hef hkq hbb hE hn
     go_wp2_with (at_builtin;refine wpList_append_sl rfl (.tmp 29) (.tmp 35) 22 rfl 3 i0 _ 1 8 Tryz.underlying22 Hi.o Hz0.o Hz1.o Hz2.o rfl (by decide) a2 n c2 _ rfl ((HS2.o.alloc _).alloc _) ⟨wr.heap.size + 1,0,none⟩ 2 2 [H J lo,H J (hi + 1)] rfl rfl ?hnews ?hone (by decide) (by omega) (by omega) ?hk)
     case hnews=> exact news_row' _ _ _ _ (by simp)
     case hone=> intro u hu;simp at hu;rcases hu with rfl | rfl <;> rfl
     case hk=>
      intro g c3 w3 hsl3 hk3 hg3;have hga:∀ x∈a2.toList,w.heap.size≤x:=fun x hx=> HG2.o x (by simpa using hx);have K3:=gi ((HKQ.o.trans (Keeps.a2 _ _ _)).after hk3 (fun x hx=> .inr (hga x hx)));have hgw:w.heap.size≤g:=by
       rcases hg3 with h | h
       ·exact HG2.o g h
       ·have h:wr.heap.size + 1 + 1≤g:=h
        have:=HKQ.o.size
        omega
      have HGW:=gi hgw;have hsl4:SliceAt w3 3 1 (some g) (E ++ [lo,hi + 1]).length c3 ((E ++ [lo,hi + 1]).map (H J)):=by
       rw [List.length_append,List.map_append,←HN.o];exact hsl3
      have HS4:=gi hsl4;clear hsl3 hk3 hg3 hga hgw hsl4 x0 x1;go_wp2;go_roundw
      case rel=> exact ⟨k + 1,some g,c3,by omega,by go_num,by rw [HEF.o,List.length_append,←HN.o];rfl,by rw [HEF.o];exact HS4.o,K3.o,fun x hx=> by cases hx;exact HGW.o⟩
      case measure=> simp [intOf];omega
    ·obtain rfl:k=l.length:=by omega
     rw [List.take_length] at HS2 ⊢;have hpj:=HPR.o;rw [←hpj] at HS2 ⊢;clear hpj hkq hk hlk;go_wp2;go_roundw
     case rel=> exact ⟨j + 1,a2,c2,by omega,by go_num,rfl,HS2.o,HKQ.o,HG2.o⟩
     case measure=> simp [intOf];omega
  ·obtain rfl:j=2:=by omega
   have hpre:pre A B 2=A ++ B:=rfl;rw [hpre] at HSL ⊢;have hl0:0 < (endsF (A ++ B)).length:=by
    rw [endsF_length]
    have:=List.length_pos_iff.2 HNE.o
    omega
   have hl1:(endsF (A ++ B)).length≤1000:=by
    have h1:=HAL.o;have h2:=HBL.o;rw [endsF_length,List.length_append];omega
   have hen:endsP A B=Lib.compact ((endsF (A ++ B)).mergeSort fun x y=> decide (x≤y)):=rfl;obtain ⟨zs,hzs⟩:∃ zs,zs=endsF (A ++ B):=⟨_,rfl⟩;rw [←hzs] at HSL hl0 hl1 hen ⊢
   cases a' with
   | none=>
    have:=HSL.o.2.1
    omega
   | some E=>
    have hEw:=HGA.o E rfl;have HEW:=gi hEw;have HSO:=gi (fun (W:World) (h:SliceAt W 3 1 (some E) zs.length c' (zs.map (H J)))=> sort_any E c' zs W h (by omega));have hms:(zs.mergeSort fun x y=> decide (x≤y)).length=zs.length:=List.length_mergeSort zs;obtain ⟨ys,hys⟩:∃ ys,ys=(zs.mergeSort fun x y=> decide (x≤y)):=⟨_,rfl⟩;rw [←hys] at HSO hms hen;have HCO:=gi (fun (W:World) (h:SliceAt W 3 1 (some E) ys.length c' (ys.map (H J)))=> compact_any E c' ys W h (by omega));have hcl:=compact_len ys;obtain ⟨es,hes⟩:∃ es,es=Lib.compact ys:=⟨_,rfl⟩;rw [←hes] at HCO hen hcl;have HEN:=gi hen;have hel:es.length≤1000:=by omega
    have HMS:=gi hms;simp only [sv,Option.map_some];clear hEw hys hes hzs hpre hlt hj hen hcl hl0 hms;go_wp2_with fail
    refine Calls.mono (HSO.o _ HSL.o) ?_;rintro e w2 ⟨rfl,hs2,hk2⟩;have K2:=gi (HKW.o.after hk2 (by intro x hx;simp at hx;subst hx;exact .inr HEW.o));rw [←HMS.o] at hs2;have HS2:=gi hs2;clear hs2 hk2 HSL HKW;go_wp2_with fail
    rw [←HMS.o];refine Calls.mono (HCO.o _ HS2.o) ?_;rintro e w3 ⟨rfl,hs3,hk3⟩;have K3:=gi (K2.o.after hk3 (by intro x hx;simp at hx;subst hx;exact .inr HEW.o));have HS3:=gi hs3;clear hs3 hk3 HS2 K2 HMS HSO HCO;have hm1:=make_two Tryz.underlying142 infoB rfl (by omega);have hm2:=make_two Tryz.underlying22 infoI rfl (by omega);go_upto_region 16 with fail
    clear hm1 hm2;obtain ⟨I,hI⟩:∃ I,I=w3.heap.size:=⟨_,rfl⟩;obtain ⟨N,hN⟩:∃ N,N=w3.heap.size + 1:=⟨_,rfl⟩;obtain ⟨X,hX⟩:∃ X,X=(w3.alloc (.cells #[F false,F false] 4)).alloc (.cells #[H J 0,H J 0] 3):=⟨_,rfl⟩;have hkX:Keeps [] w3 X:=by rw [hX];exact Keeps.a2 _ _ _
    have hXI:X.heap[I]? =some (.cells #[F false,F false] 4 (0,0)):=by rw [hX,hI];exact (Keeps.a1 _ _).heap (heap_alloc_new w3 _) (by simp)
    have hXN:X.heap[N]? =some (.cells #[H J (0:Nat),H J (0:Nat)] 3 (0,0)):=by rw [hX,hN];exact heap_alloc2_new w3 _ _
    have hXS:X.heap.size=w3.heap.size + 2:=by rw [hX];simp
    rw [←hX,←hN,←hI];have hEl:=HS3.o.lt;have hw3:=K3.o.size;have HIN:=gi (show E < I∧N=I + 1∧X.heap.size=N + 1∧w.heap.size≤I by omega);have HSE:=gi (HS3.o.keep hkX (by simp));have KX:=gi (K3.o.trans hkX);have HXI:=gi hXI;have HXN:=gi hXN;have HES:=gi (ends_small HA.o HB.o);rw [HEN.o] at HES;clear hI hN hX hkX hXI hXN hXS hEl hw3 HS3 K3;go_wp2
    go_loopw [12,13] (fun v i wr=> ∃ (k n0 n1:Nat) (b0 b1:Bool) (out:List (Int × Int)) (a3:Option Nat) (c3:Nat),i=H J k∧k≤es.length∧v=sv a3 out.length c3∧SliceAt wr 86 2 a3 out.length c3 (flatP out)∧comb kp A B (es.drop k) n0 n1 out=combP kp A B∧n0≤A.length∧n1≤B.length∧wr.heap[N]? =some (.cells #[H J n0,H J n1] 3 (0,0))∧wr.heap[I]? =some (.cells #[F b0,F b1] 4 (0,0))∧Keeps [] w wr∧Keeps [N,I] X wr∧(∀ g,a3=some g→X.heap.size≤g)∧out.length≤k∧∀ z∈out,-10≤z.2∧z.2≤10000000) (fun _ i _=> es.length - (intOf i).toNat)
    case atStart=> exact ⟨0,0,0,false,false,[],none,0,rfl,by omega,rfl,SliceAt.nil _ _ _,by rw [List.drop_zero];show _=comb kp A B (endsP A B) 0 0 [];rw [HEN.o],by omega,by omega,HXN.o,HXI.o,KX.o,Keeps.refl _ _,by simp,by simp,by simp⟩
    case round=>
     obtain ⟨k,n0,n1,b0,b1,out,a3,c3,rfl,hk,rfl,hso,hcb,hn0,hn1,hwn,hwi,hkw,hkx,hga,hol,hob⟩:=hrel;have HSO:=gi hso;have HCB:=gi hcb;have HWN:=gi hwn;have HWI:=gi hwi;have HKW:=gi hkw;have HKX:=gi hkx;have HGA:=gi hga;have HOL:=gi hol;have HOB:=gi hob;have HN0:=gi hn0;have HN1:=gi hn1;have hw1:IntKind.i64.wrap ((k:Int) + 1)=(k:Int) + 1:=IntWalk.i64_in _ (by omega);clear hso hcb hwn hwi hkw hkx hga hol hob hn0 hn1
     by_cases hlt:k + 1 < es.length
     ·have hlti:(k:Int) + 1 < (es.length:Int):=by omega
      have hlt0:k < es.length:=by omega
      have hlt0i:(k:Int) < (es.length:Int):=by omega
      have hd:es.drop k=es[k]::es[k + 1]::es.drop (k + 2):=by rw [List.drop_eq_getElem_cons hlt0,List.drop_eq_getElem_cons hlt]
      have hd1:es.drop (k + 1)=es[k + 1]::es.drop (k + 2):=by rw [List.drop_eq_getElem_cons hlt]
      have hx0:=HSE.o.cell k (by simpa using hlt0);have hy0:=HSE.o.cell (k + 1) (by simpa using hlt);have hEN:E ∉ [N,I]:=by have:=HIN.o;simp;omega
      have hx1:=HKX.o.cell hx0 hEN;have hy1:=HKX.o.cell hy0 hEN;simp only [List.getElem_map] at hx1 hy1;have hxb:=HES.o es[k] (List.getElem_mem hlt0);have hyb:=HES.o es[k + 1] (List.getElem_mem hlt);obtain ⟨x,hx⟩:∃ x,x=es[k]:=⟨_,rfl⟩;obtain ⟨y,hy⟩:∃ y,y=es[k + 1]:=⟨_,rfl⟩;rw [←hx,←hy] at hd;rw [←hy] at hd1;rw [←hx] at hx1 hxb;rw [←hy] at hy1 hyb;obtain ⟨m0,hm0⟩:∃ m0,m0=adv A n0 x:=⟨_,rfl⟩;obtain ⟨m1,hm1⟩:∃ m1,m1=adv B n1 x:=⟨_,rfl⟩;have hcb2:comb kp A B (es.drop (k + 1)) m0 m1 (if kp (inb A m0 x) (inb B m1 x)=true then addP out (x,y - 1) else out)=combP kp A B:=by
       rw [←HCB.o,hd,hd1,comb,←hm0,←hm1]
      have HCB2:=gi hcb2;have HM0E:=gi hm0.symm;have HM1E:=gi hm1.symm;have HM0:=gi (show m0≤A.length by rw [hm0];exact adv_le _ _ _ HN0.o);have HM1:=gi (show m1≤B.length by rw [hm1];exact adv_le _ _ _ HN1.o);have HYB:=gi hyb;have HY1:=gi hy1;clear hd hd1 hx0 hy0 hxb hyb hx hy hm0 hm1 hcb2 HCB hEN;obtain ⟨wr0,hwr0⟩:∃ wr0,wr0=wr:=⟨_,rfl⟩;go_upto_region 20 with fail
      clear hx1 hy1;go_wp2;rw [←hwr0] at HSO HWN HWI HKW HKX HY1
      go_loopw [62] (fun i wq=> ∃ (j p0 p1:Nat) (q0 q1:Bool),j≤2∧i=H J j∧(j=0→p0=n0)∧(j≤1→p1=n1)∧(1≤j→p0=m0∧q0=inb A m0 x)∧(2≤j→p1=m1∧q1=inb B m1 x)∧p0≤A.length∧p1≤B.length∧wq.heap[N]? =some (.cells #[H J p0,H J p1] 3 (0,0))∧wq.heap[I]? =some (.cells #[F q0,F q1] 4 (0,0))∧Keeps [N,I] wr0 wq) (fun i _=> 2 - (intOf i).toNat)
      case atStart=> exact ⟨0,n0,n1,b0,b1,by omega,rfl,fun _=> rfl,fun _=> rfl,fun h=> by omega,fun h=> by omega,HN0.o,HN1.o,by rw [←hwr0];exact HWN.o,by rw [←hwr0];exact HWI.o,by rw [←hwr0];exact Keeps.refl _ _⟩
      case round=>
       obtain ⟨j,p0,p1,q0,q1,hj,rfl,hp0,hp1,hj1,hj2,hq0,hq1,hnn,hii,hkq⟩:=hrel;have HNN:=gi hnn;have HII:=gi hii;have HKQ4:=gi hkq;have HQ0:=gi hq0;have HQ1:=gi hq1;have HKW4:=gi (show Keeps [] w wr from HKW.o.after hkq (by intro y hy;simp at hy;have h1:=HIN.o;rcases hy with rfl | rfl <;> exact .inr (by omega)));clear hnn hii hkq hq0 hq1
       by_cases hj3:j=2
       ·subst hj3;have hp0':=hj1 (by omega);have hp1':=hj2 (by omega);have HP0':=gi hp0';have HP1':=gi hp1';obtain ⟨i0',i1',if'⟩:=two_row HII.o;have hy2:=HKQ4.o.cell HY1.o (by have:=HIN.o;simp;omega);obtain ⟨kq,hkq⟩:∃ kq,kq=kp q0 q1:=⟨_,rfl⟩;have HKC:=gi (HKP.o I 2 q0 q1 wr i0' i1');rw [←hkq] at HKC;have hcb3:=HCB2.o;rw [←hp0'.2,←hp1'.2,←hkq] at hcb3;have HC3:=gi hcb3;have hyb:=HYB.o;have hwy:IntKind.i64.wrap (y - 1)=y - 1:=IntWalk.i64_in _ (by omega);have hk1b:(0:Int)≤(k:Int) + 1:=by omega
        have hk1c:((k:Int) + 1).toNat=k + 1:=by omega
        have hgN:∀ g,a3=some g→g ∉ [N,I]:=fun g hg=> by have h1:=HGA.o g hg;have h2:=HIN.o;simp;omega
        have hsl:SliceAt wr 86 2 a3 out.length c3 (flatP out):=HSO.o.keep HKQ4.o hgN;have HSL:=gi hsl;have HGN:=gi hgN;clear hp0 hp1 hj1 hj2 hj hp0' hp1' hkq hcb3 hyb hgN hsl i0' i1' if'
        cases kq with
        | false=>
         have hcf:comb kp A B (es.drop (k + 1)) m0 m1 out=combP kp A B:=by rw [←HC3.o];rfl
         have HCF:=gi hcf;clear hcf;go_wp2_with fail
         refine Calls.mono HKC.o ?_;rintro e w5 ⟨rfl,rfl⟩;go_wp2;go_roundw
         case rel=> exact ⟨k + 1,m0,m1,q0,q1,out,a3,c3,by go_num,by omega,rfl,HSL.o,HCF.o,HM0.o,HM1.o,by rw [←HP0'.o.1,←HP1'.o.1];exact HNN.o,HII.o,HKW4.o,HKX.o.trans HKQ4.o,HGA.o,by have:=HOL.o;omega,HOB.o⟩
         case measure=> simp [intOf];omega
        | true=>
         have hcf:comb kp A B (es.drop (k + 1)) m0 m1 (addP out (x,y - 1))=combP kp A B:=by rw [←HC3.o];rfl
         have HCF:=gi hcf;have hol:out.length≤100000:=by have:=HOL.o;omega
         have HAD:=gi (fun (W:World) (h:SliceAt W 86 2 a3 out.length c3 (flatP out))=> add_any a3 c3 out x (y - 1) W h HOB.o hol);clear hcf hol;go_wp2_with fail
         refine Calls.mono HKC.o ?_;rintro e w5 ⟨rfl,rfl⟩;go_wp2_with fail
         refine Calls.mono (HAD.o _ HSL.o) ?_;rintro e w6 ⟨g6,c6,rfl,hs6,hk6,hg6⟩;have hga3:∀ z∈a3.toList,X.heap.size≤z:=fun z hz=> HGA.o z (by simpa using hz);have hin:=HIN.o;have hxs:=HKX.o.size;have hxq:=HKQ4.o.size;have S6:=gi hs6;have N6:=gi (hk6.heap HNN.o (fun h=> by have:=hga3 _ h;omega));have I6:=gi (hk6.heap HII.o (fun h=> by have:=hga3 _ h;omega));have W6:=gi (HKW4.o.after hk6 (fun z hz=> .inr (by have:=hga3 z hz;omega)));have X6:=gi ((HKX.o.trans HKQ4.o).after hk6 (fun z hz=> .inr (hga3 z hz)));have G6:=gi (show X.heap.size≤g6 by rcases hg6 with h | h;exact HGA.o g6 h;omega);have B6:=gi (addP_bound (s:=(x,y - 1)) HOB.o (by simp only;have:=HYB.o;omega));have L6:=gi (show (addP out (x,y - 1)).length≤k + 1 by have:=addP_length out (x,y - 1);have:=HOL.o;omega);clear hs6 hk6 hg6 hga3 hin hxs hxq;go_wp2;go_roundw
         case rel=> exact ⟨k + 1,m0,m1,q0,q1,addP out (x,y - 1),some g6,c6,by go_num,by omega,rfl,S6.o,HCF.o,HM0.o,HM1.o,by rw [←HP0'.o.1,←HP1'.o.1];exact N6.o,I6.o,W6.o,X6.o,fun z hz=> by cases hz;exact G6.o,L6.o,B6.o⟩
         case measure=> simp [intOf];omega
       ·have hj4:j=0∨j=1:=by omega
        clear hj3
        rcases hj4 with rfl | rfl
        ·skip
         have HPP:=gi (show adv A p0 x=m0 by rw [hp0 rfl];exact HM0E.o);have HP1:=gi (hp1 (by omega));obtain ⟨wq0,hwq0⟩:∃ wq0,wq0=wr:=⟨_,rfl⟩;have hsp:=(HL.o.keep HKW4.o).s0;have hcc:=(HL.o.keep HKW4.o).c0;have HSP:=gi hsp;clear hp0 hp1 hj1 hj2 hj hsp;go_wp2;rw [←hwq0] at HNN HII HKQ4 HKW4 HSP
         go_loopw [] (fun wz=> ∃ q:Nat,q≤A.length∧adv A q x=m0∧wz.heap[N]? =some (.cells #[H J q,H J p1] 3 (0,0))∧Keeps [N] wq0 wz) (fun wz=> A.length - cellNat wz ⟨N,0,none⟩)
         case atStart=> exact ⟨p0,HQ0.o,HPP.o,by rw [←hwq0];exact HNN.o,by rw [←hwq0];exact Keeps.refl _ _⟩
         case round=>
          clear hwq0 hcc;obtain ⟨q,hq,hadv,hnq,hkz⟩:=hrel;have HKZ:=gi hkz;have HNQ:=gi hnq;have HIQ:=gi (hkz.heap HII.o (by have:=HIN.o;simp;omega));obtain ⟨z0,z1,zf⟩:=two_row hnq;obtain ⟨i0',i1',if'⟩:=two_row HIQ.o;have hkw2:Keeps [] w wr:=HKW4.o.after hkz (by intro y hy;simp at hy;subst hy;exact .inr (by have:=HIN.o;omega));have HQL:=gi hq;have HADV:=gi hadv;have hcn:cellNat wr ⟨N,0,none⟩=q:=by simp only [cellNat,z0];simp
          have HCN:=gi hcn;have hqb:q≤64:=Nat.le_trans hq HAL.o;have hwq:IntKind.i64.wrap ((q:Int) + 1)=(q:Int) + 1:=IntWalk.i64_in _ (by omega);clear hnq hkz hadv hcn hq
          by_cases hlq:q < A.length
          ·obtain ⟨sb,so,hsa,hsbb,hsx⟩:=((HL.o.keep hkw2).s0).at_ (by have:=HSP.o.le;omega);subst hsa;obtain ⟨x0,x1⟩:=hsx q hlq;have hlqi:(q:Int) < (A.length:Int):=by omega
           have hst:=adv_step A q x hlq;have hsp:=adv_stop A q x;have hin:=inb_at (x:=x) hlq;have HST:=gi hst;have HSP2:=gi hsp;have HIN2:=gi hin;obtain ⟨lo,hlo⟩:∃ lo,lo=A[q].1:=⟨_,rfl⟩;obtain ⟨hi,hhi⟩:∃ hi,hi=A[q].2:=⟨_,rfl⟩;rw [←hlo] at x0;rw [←hhi] at x1;have HLO:=gi hlo;have HHI:=gi hhi;clear hsx hst hsp hin hlo hhi hkw2 hsbb
           by_cases hlt2:hi < x
           ·have hkS:=(Keeps.refl [N] wr).setCell (p:=⟨N,0,none⟩) (.inl (by simp)) (H J ((q:Int) + 1));have HKS:=gi hkS;have hheap:(wr.setCell ⟨N,0,none⟩ (H J ((q:Int) + 1))).heap[N]? =some (.cells #[H J ((q + 1:Nat):Int),H J p1] 3 (0,0)):=heap_setCell_same wr N 0 _ _ _ HNQ.o;have HHE:=gi hheap;have HAD2:=gi (show adv A (q + 1) x=m0 by rw [←HST.o (by rw [←HHI.o];exact hlt2)];exact HADV.o);have hcn2:cellNat (wr.setCell ⟨N,0,none⟩ (H J ((q:Int) + 1))) ⟨N,0,none⟩=q + 1:=by
             simp only [cellNat,(two_row HHE.o).1];simp
            have HCN2:=gi hcn2;clear hkS hheap hcn2;go_wp2;go_roundw
            case rel=> exact ⟨q + 1,by omega,HAD2.o,HHE.o,HKZ.o.trans HKS.o⟩
            case measure=> rw [HCN2.o,HCN.o];omega
           ·have HQM:=gi (show q=m0 by rw [←HADV.o,HSP2.o (fun h=> by rw [←HHI.o];exact hlt2)])
            by_cases hle:lo≤x
            ·clear HCN;have HV:=gi (show true=inb A m0 x from by rw [←HQM.o,HIN2.o,←HLO.o];simp [hle]);have hkS:=(Keeps.refl [I] wr).setCell (p:=⟨I,0,none⟩) (.inl (by simp)) (F true);have NF:=gi (hkS.heap HNQ.o (by have:=HIN.o;simp;omega));have IF:=gi (show (wr.setCell ⟨I,0,none⟩ (F true)).heap[I]? =some (.cells #[F true,F q1] 4 (0,0)) from heap_setCell_same wr I 0 _ _ _ HIQ.o);have KF:=gi ((HKQ4.o.trans (HKZ.o.mono (by simp))).trans (hkS.mono (by simp)));clear hkS;go_wp2;go_roundw
             case rel=> exact ⟨1,q,p1,true,q1,by omega,rfl,fun h=> by omega,fun _=> HP1.o,fun _=> ⟨HQM.o,HV.o⟩,fun h=> by omega,HQL.o,HQ1.o,NF.o,IF.o,KF.o⟩
             case measure=> simp [intOf]
            ·clear HCN;have HV:=gi (show false=inb A m0 x from by rw [←HQM.o,HIN2.o,←HLO.o];simp [hle]);have hkS:=(Keeps.refl [I] wr).setCell (p:=⟨I,0,none⟩) (.inl (by simp)) (F false);have NF:=gi (hkS.heap HNQ.o (by have:=HIN.o;simp;omega));have IF:=gi (show (wr.setCell ⟨I,0,none⟩ (F false)).heap[I]? =some (.cells #[F false,F q1] 4 (0,0)) from heap_setCell_same wr I 0 _ _ _ HIQ.o);have KF:=gi ((HKQ4.o.trans (HKZ.o.mono (by simp))).trans (hkS.mono (by simp)));clear hkS;go_wp2;go_roundw
             case rel=> exact ⟨1,q,p1,false,q1,by omega,rfl,fun h=> by omega,fun _=> HP1.o,fun _=> ⟨HQM.o,HV.o⟩,fun h=> by omega,HQL.o,HQ1.o,NF.o,IF.o,KF.o⟩
             case measure=> simp [intOf]
          ·have HQM:=gi (show q=m0 by rw [←HADV.o,adv_stop _ _ _ (fun h=> absurd h hlq)]);have hlqi:¬ (q:Int) < (A.length:Int):=by omega
           have hin:=inb_none (x:=x) hlq;have HIN2:=gi hin;clear hin hkw2 HCN;have HV:=gi (show false=inb A m0 x from by rw [←HQM.o,HIN2.o]);have hkS:=(Keeps.refl [I] wr).setCell (p:=⟨I,0,none⟩) (.inl (by simp)) (F false);have NF:=gi (hkS.heap HNQ.o (by have:=HIN.o;simp;omega));have IF:=gi (show (wr.setCell ⟨I,0,none⟩ (F false)).heap[I]? =some (.cells #[F false,F q1] 4 (0,0)) from heap_setCell_same wr I 0 _ _ _ HIQ.o);have KF:=gi ((HKQ4.o.trans (HKZ.o.mono (by simp))).trans (hkS.mono (by simp)));clear hkS;go_wp2;go_roundw
           case rel=> exact ⟨1,q,p1,false,q1,by omega,rfl,fun h=> by omega,fun _=> HP1.o,fun _=> ⟨HQM.o,HV.o⟩,fun h=> by omega,HQL.o,HQ1.o,NF.o,IF.o,KF.o⟩
           case measure=> simp [intOf]
        ·skip
         have HPP:=gi (show adv B p1 x=m1 by rw [hp1 (by omega)];exact HM1E.o);have HP0:=gi (hj1 (by omega));obtain ⟨wq0,hwq0⟩:∃ wq0,wq0=wr:=⟨_,rfl⟩;have hsp:=(HL.o.keep HKW4.o).s1;have hcc:=(HL.o.keep HKW4.o).c1;have HSP:=gi hsp;clear hp0 hp1 hj1 hj2 hj hsp;go_wp2;rw [←hwq0] at HNN HII HKQ4 HKW4 HSP
         go_loopw [] (fun wz=> ∃ q:Nat,q≤B.length∧adv B q x=m1∧wz.heap[N]? =some (.cells #[H J p0,H J q] 3 (0,0))∧Keeps [N] wq0 wz) (fun wz=> B.length - cellNat wz ⟨N,1,none⟩)
         case atStart=> exact ⟨p1,HQ1.o,HPP.o,by rw [←hwq0];exact HNN.o,by rw [←hwq0];exact Keeps.refl _ _⟩
         case round=>
          clear hwq0 hcc;obtain ⟨q,hq,hadv,hnq,hkz⟩:=hrel;have HKZ:=gi hkz;have HNQ:=gi hnq;have HIQ:=gi (hkz.heap HII.o (by have:=HIN.o;simp;omega));obtain ⟨z0,z1,zf⟩:=two_row hnq;obtain ⟨i0',i1',if'⟩:=two_row HIQ.o;have hkw2:Keeps [] w wr:=HKW4.o.after hkz (by intro y hy;simp at hy;subst hy;exact .inr (by have:=HIN.o;omega));have HQL:=gi hq;have HADV:=gi hadv;have hcn:cellNat wr ⟨N,1,none⟩=q:=by simp only [cellNat,z1];simp
          have HCN:=gi hcn;have hqb:q≤64:=Nat.le_trans hq HBL.o;have hwq:IntKind.i64.wrap ((q:Int) + 1)=(q:Int) + 1:=IntWalk.i64_in _ (by omega);clear hnq hkz hadv hcn hq
          by_cases hlq:q < B.length
          ·obtain ⟨sb,so,hsa,hsbb,hsx⟩:=((HL.o.keep hkw2).s1).at_ (by have:=HSP.o.le;omega);subst hsa;obtain ⟨x0,x1⟩:=hsx q hlq;have hlqi:(q:Int) < (B.length:Int):=by omega
           have hst:=adv_step B q x hlq;have hsp:=adv_stop B q x;have hin:=inb_at (x:=x) hlq;have HST:=gi hst;have HSP2:=gi hsp;have HIN2:=gi hin;obtain ⟨lo,hlo⟩:∃ lo,lo=B[q].1:=⟨_,rfl⟩;obtain ⟨hi,hhi⟩:∃ hi,hi=B[q].2:=⟨_,rfl⟩;rw [←hlo] at x0;rw [←hhi] at x1;have HLO:=gi hlo;have HHI:=gi hhi;clear hsx hst hsp hin hlo hhi hkw2 hsbb
           by_cases hlt2:hi < x
           ·have hkS:=(Keeps.refl [N] wr).setCell (p:=⟨N,1,none⟩) (.inl (by simp)) (H J ((q:Int) + 1));have HKS:=gi hkS;have hheap:(wr.setCell ⟨N,1,none⟩ (H J ((q:Int) + 1))).heap[N]? =some (.cells #[H J p0,H J ((q + 1:Nat):Int)] 3 (0,0)):=heap_setCell_same wr N 1 _ _ _ HNQ.o;have HHE:=gi hheap;have HAD2:=gi (show adv B (q + 1) x=m1 by rw [←HST.o (by rw [←HHI.o];exact hlt2)];exact HADV.o);have hcn2:cellNat (wr.setCell ⟨N,1,none⟩ (H J ((q:Int) + 1))) ⟨N,1,none⟩=q + 1:=by
             simp only [cellNat,(two_row HHE.o).2.1];simp
            have HCN2:=gi hcn2;clear hkS hheap hcn2;go_wp2;go_roundw
            case rel=> exact ⟨q + 1,by omega,HAD2.o,HHE.o,HKZ.o.trans HKS.o⟩
            case measure=> rw [HCN2.o,HCN.o];omega
           ·have HQM:=gi (show q=m1 by rw [←HADV.o,HSP2.o (fun h=> by rw [←HHI.o];exact hlt2)])
            by_cases hle:lo≤x
            ·clear HCN;have HV:=gi (show true=inb B m1 x from by rw [←HQM.o,HIN2.o,←HLO.o];simp [hle]);have hkS:=(Keeps.refl [I] wr).setCell (p:=⟨I,1,none⟩) (.inl (by simp)) (F true);have NF:=gi (hkS.heap HNQ.o (by have:=HIN.o;simp;omega));have IF:=gi (show (wr.setCell ⟨I,1,none⟩ (F true)).heap[I]? =some (.cells #[F q0,F true] 4 (0,0)) from heap_setCell_same wr I 1 _ _ _ HIQ.o);have KF:=gi ((HKQ4.o.trans (HKZ.o.mono (by simp))).trans (hkS.mono (by simp)));clear hkS;go_wp2;go_roundw
             case rel=> exact ⟨2,p0,q,q0,true,by omega,rfl,fun h=> by omega,fun h=> by omega,fun _=> HP0.o,fun _=> ⟨HQM.o,HV.o⟩,HQ0.o,HQL.o,NF.o,IF.o,KF.o⟩
             case measure=> simp [intOf]
            ·clear HCN;have HV:=gi (show false=inb B m1 x from by rw [←HQM.o,HIN2.o,←HLO.o];simp [hle]);have hkS:=(Keeps.refl [I] wr).setCell (p:=⟨I,1,none⟩) (.inl (by simp)) (F false);have NF:=gi (hkS.heap HNQ.o (by have:=HIN.o;simp;omega));have IF:=gi (show (wr.setCell ⟨I,1,none⟩ (F false)).heap[I]? =some (.cells #[F q0,F false] 4 (0,0)) from heap_setCell_same wr I 1 _ _ _ HIQ.o);have KF:=gi ((HKQ4.o.trans (HKZ.o.mono (by simp))).trans (hkS.mono (by simp)));clear hkS;go_wp2;go_roundw
             case rel=> exact ⟨2,p0,q,q0,false,by omega,rfl,fun h=> by omega,fun h=> by omega,fun _=> HP0.o,fun _=> ⟨HQM.o,HV.o⟩,HQ0.o,HQL.o,NF.o,IF.o,KF.o⟩
             case measure=> simp [intOf]
          ·have HQM:=gi (show q=m1 by rw [←HADV.o,adv_stop _ _ _ (fun h=> absurd h hlq)]);have hlqi:¬ (q:Int) < (B.length:Int):=by omega
           have hin:=inb_none (x:=x) hlq;have HIN2:=gi hin;clear hin hkw2 HCN;have HV:=gi (show false=inb B m1 x from by rw [←HQM.o,HIN2.o]);have hkS:=(Keeps.refl [I] wr).setCell (p:=⟨I,1,none⟩) (.inl (by simp)) (F false);have NF:=gi (hkS.heap HNQ.o (by have:=HIN.o;simp;omega));have IF:=gi (show (wr.setCell ⟨I,1,none⟩ (F false)).heap[I]? =some (.cells #[F q0,F false] 4 (0,0)) from heap_setCell_same wr I 1 _ _ _ HIQ.o);have KF:=gi ((HKQ4.o.trans (HKZ.o.mono (by simp))).trans (hkS.mono (by simp)));clear hkS;go_wp2;go_roundw
           case rel=> exact ⟨2,p0,q,q0,false,by omega,rfl,fun h=> by omega,fun h=> by omega,fun _=> HP0.o,fun _=> ⟨HQM.o,HV.o⟩,HQ0.o,HQL.o,NF.o,IF.o,KF.o⟩
           case measure=> simp [intOf]
     ·have hnlti:¬ (k:Int) + 1 < (es.length:Int):=by omega
      have hfin:out=combP kp A B:=by rw [←HCB.o,comb_end _ _ _ _ (by rw [List.length_drop];omega)]
      have HF:=gi hfin;clear hfin;go_wp2;go_ret;exact ⟨a3,c3,by rw [←HF.o];rfl,by rw [←HF.o];exact HSO.o,HKW.o,fun g hg=> by have h1:=HGA.o g hg;have h2:=HIN.o;omega⟩
end Go.Proofs.YtjnlkjlbejelgaaGreat
