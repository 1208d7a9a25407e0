/- Part of the proof. No condition: every lemma says its own. -/
import Derived.Test.YtjnlkjlbejelgaaGreatRSPai
namespace Go.Proofs.YtjnlkjlbejelgaaGreat
open Go.RowKit Go.Shelf
open Go.Value renaming int→H,slice→M,bool→F
open Go.IntKind renaming i64→J
open Go.RowKit Go.Shelf Go.Sort
open Go.RowKit
set_option maxRecDepth 100000
set_option maxHeartbeats 16000000
theorem cr.putRow {w:World} {e g n c:Nat} {bR d:List Int} (h:cr w e 1 (some g) n c (bR.map (H J))) (dB:d.length=n):cr (Sort.putRow (H J) w g 0 d.toArray) e 1 (some g) n c (d.map (H J)):=by
 obtain ⟨h1,cur,h2,h3,h4,h5,eW⟩:=h;refine ⟨by simp [dB],_,amy h2 _,h3,h4,by simpa [putCells] using h5,?_⟩;have hc:cur.size=c:=by omega
 apply List.ext_getElem?
 intro i;rw [List.getElem?_take]
 by_cases hi:i < n
 ·have aj1:i < cur.size:=by omega
  simp [putCells,hi,dB,aj1]
 ·have:(d.map (H J))[i]? =none:=by rw [List.getElem?_eq_none];simp;omega
  simp [hi,this]
theorem anZ (g c:Nat) (bR:List Int) (w:World) (h:cr w 3 1 (some g) bR.length c (bR.map (H J))) (hn:bR.length≤1000000):
  Calls Tryz.prog 153 #[M (some ⟨g,0,none⟩) bR.length c] w fun e w'=> e=.returned (.tuple #[])∧cr w' 3 1 (some g) bR.length c ((bR.mergeSort fun x y=> decide (x≤y)).map (H J))∧I [g] w w':=by
 refine (Any.slices_Sort_int anX g 0 c bR w h.holds h.lt (by omega)).mono ?_;rintro e w' ⟨rfl,n,os,rfl⟩;have hp:=(h.ah (S:=[]) (Nj w n) (by simp)).putRow (d:=bR.mergeSort fun x y=> decide (x≤y)) (List.length_mergeSort bR);exact ⟨rfl,hp.ah (S:=[]) (X2 _ os) (by simp),((Nj w n).mono (by simp)).trans ((acO _ g _).trans ((X2 _ os).mono (by simp)))⟩
theorem RJ (bR:List Int):(Lib.compact bR).length≤bR.length:=by
 unfold Lib.compact Lib.compactUpTo;rw [List.length_map];exact Nat.le_trans (List.length_filter_le _ _) (by simp)
theorem aiu (g c:Nat) (bR:List Int) (w:World) (h:cr w 3 1 (some g) bR.length c (bR.map (H J))) (hn:bR.length≤1000000):
  Calls Tryz.prog 154 #[M (some ⟨g,0,none⟩) bR.length c] w fun e w'=> e=.returned (M (some ⟨g,0,none⟩) (Lib.compact bR).length c)∧cr w' 3 1 (some g) (Lib.compact bR).length c ((Lib.compact bR).map (H J))∧I [g] w w':=by
 have fc:=RJ bR;refine (Any.slices_Compact_int ais g 0 c bR w h.holds (by omega) ?_).mono ?_
 ·obtain ⟨_,cur,_,h3,_⟩:=h;exact h3
 rintro e w' ⟨rfl,ae,rfl⟩;have hp:=(h.ah (S:=[]) (Nj w ae) (by simp)).putRow (d:=Lib.compact bR ++ List.replicate (bR.length - (Lib.compact bR).length) 0) (by simp;omega);refine ⟨rfl,?_,((Nj w ae).mono (by simp)).trans (acO _ g _)⟩;obtain ⟨h1,cur,h2,h3,h4,h5,eW⟩:=hp;refine ⟨by simp,cur,h2,by omega,h4,h5,?_⟩
 have:=congrArg (List.take (Lib.compact bR).length) eW
 rw [List.take_take,Nat.mul_one,Nat.min_eq_left fc,List.map_append,List.take_left' (by simp)] at this;rw [Nat.mul_one];exact this
def ld (l:List (Int × Int)):List Int:=l.flatMap fun s=> [s.1,s.2 + 1]
theorem Fj (l:List (Int × Int)):(ld l).length=2 * l.length:=by
 induction l with
 | nil=> rfl
 | cons k ks ih=> simp only [ld,List.flatMap_cons,List.length_append,List.length_cons,List.length_nil] at ih ⊢;omega
theorem XC (a b:List (Int × Int)):ld (a ++ b)=ld a ++ ld b:=by simp [ld]
def mc (l:List (Int × Int)) (n:Nat) (x:Int):Nat:=n + ((l.drop n).takeWhile fun s=> decide (s.2 < x)).length
def s4 (l:List (Int × Int)) (n:Nat) (x:Int):Bool:=match l[n]? with | some s=> decide (s.1≤x) | none=> false
def yA (kp:Bool→Bool→Bool) (b7 U:List (Int × Int)):List Int→Nat→Nat→List (Int × Int)→List (Int × Int)
 | x::y::r,n0,n1,out=> yA kp b7 U (y::r) (mc b7 n0 x) (mc U n1 x) (if kp (s4 b7 (mc b7 n0 x) x) (s4 U (mc U n1 x) x)=true then qw out (x,y - 1) else out)
 | _,_,_,out=> out
def wS (b7 U:List (Int × Int)):List Int:=Lib.compact ((ld (b7 ++ U)).mergeSort fun x y=> decide (x≤y))
def tn (kp:Bool→Bool→Bool) (b7 U:List (Int × Int)):List (Int × Int):=yA kp b7 U (wS b7 U) 0 0 []
theorem Xc (l:List (Int × Int)) (n:Nat) (x:Int) (h:n < l.length) (hx:l[n].2 < x):mc l n x=mc l (n + 1) x:=by
 unfold mc;rw [List.drop_eq_getElem_cons h,List.takeWhile_cons_of_pos (by simpa using hx),List.length_cons];omega
theorem Ni (l:List (Int × Int)) (n:Nat) (x:Int) (h:∀ (h:n < l.length),¬ l[n].2 < x):mc l n x=n:=by
 unfold mc
 by_cases hl:n < l.length
 ·rw [List.drop_eq_getElem_cons hl,List.takeWhile_cons_of_neg (by simpa using h hl)];rfl
 ·rw [List.drop_of_length_le (by omega)];rfl
def CO (b7 U:List (Int × Int)):Nat→List (Int × Int)
 | 0=> []
 | 1=> b7
 | _=> b7 ++ U
structure B4 (w:World) (aG:Nat) (aa:Option Addr) (ac:Nat) (b7:List (Int × Int)) (jy:Option Addr) (m0:Nat) (U:List (Int × Int)):Prop where
 ar:w.cell? ⟨aG,0,none⟩=some (M aa b7.length ac)
 c1:w.cell? ⟨aG,1,none⟩=some (M jy U.length m0)
 c0:eK w aa ac b7
 cT:eK w jy m0 U
theorem B4.ah {w w':World} {aG aa ac b7 jy m0 U} (h:B4 w aG aa ac b7 jy m0 U) (k:I [] w w'):B4 w' aG aa ac b7 jy m0 U:=
 ⟨k.cell h.ar (by simp),k.cell h.c1 (by simp),h.c0.ah k,h.cT.ah k⟩
theorem B4.at_ {w:World} {aG aa ac b7 jy m0 U} (h:B4 w aG aa ac b7 jy m0 U) (j:Nat) (c8:j < 2):∃ cS dH l,w.cell? ⟨aG,j,none⟩=some (M cS l.length dH)∧eK w cS dH l∧CO b7 U (j + 1)=CO b7 U j ++ l∧(j=0→l=b7)∧(j=1→l=U)∧(l=b7∨l=U):=by
 have:j=0∨j=1:=by omega
 rcases this with rfl | rfl
 ·exact ⟨aa,ac,b7,h.ar,h.c0,rfl,fun _=> rfl,fun h=> by omega,.inl rfl⟩
 ·exact ⟨jy,m0,U,h.c1,h.cT,rfl,fun h=> by omega,fun _=> rfl,.inr rfl⟩
theorem T9:(Tryz.prog.info? 3).map (fun i=> (i.zero,i.size,i.bytes))=some (some (H J 0),1,8):=by kernel_rfl
theorem abg:(Tryz.prog.info? 4).map (fun i=> (i.zero,i.size,i.bytes))=some (some (F false),1,1):=by kernel_rfl
theorem RH (kp:Bool→Bool→Bool) (b7 U:List (Int × Int)) (l:List Int) (h:l.length≤1) (n0 n1:Nat) (out:List (Int × Int)):yA kp b7 U l n0 n1 out=out:=by
 match l,h with
 | [],_=> rfl
 | [_],_=> rfl
theorem Xv {bR:List Int} {x:Int} (h:x∈Lib.compact bR):x∈bR:=by
 unfold Lib.compact Lib.compactUpTo at h;obtain ⟨j,c8,rfl⟩:=List.mem_map.1 h;have FC:j < bR.length:=by have:=(List.mem_filter.1 c8).1;simpa using this
 simp [FC]
theorem aiM {b7 U:List (Int × Int)} (b8:∀ i (h:i < b7.length),0≤b7[i].1∧b7[i].1≤b7[i].2∧b7[i].2≤1114111) (ad:∀ i (h:i < U.length),0≤U[i].1∧U[i].1≤U[i].2∧U[i].2≤1114111):∀ e∈wS b7 U,0≤e∧e≤1114112:=by
 intro e he;have h1:=List.mem_mergeSort.1 (Xv he);obtain ⟨s,hs,K0⟩:=List.mem_flatMap.1 h1;have h2:0≤s.1∧s.1≤s.2∧s.2≤1114111:=by
  rcases List.mem_append.1 hs with h | h
  ·obtain ⟨i,hi,rfl⟩:=List.mem_iff_getElem.1 h;exact b8 i hi
  ·obtain ⟨i,hi,rfl⟩:=List.mem_iff_getElem.1 h;exact ad i hi
 simp only [List.mem_cons,List.not_mem_nil,or_false] at K0
 rcases K0 with rfl | rfl <;> omega
theorem Rr (l:List (Int × Int)) (n:Nat) (x:Int) (h:n≤l.length):mc l n x≤l.length:=by
 unfold mc;have h1:=(List.takeWhile_sublist (fun s:Int × Int=> decide (s.2 < x)) (l:=l.drop n)).length_le;rw [List.length_drop] at h1;omega
theorem W8 {l:List (Int × Int)} {s:Int × Int} (h:∀ z∈l,-10≤z.2∧z.2≤10000000) (hs:-10≤s.2∧s.2≤10000000):∀ z∈qw l s,-10≤z.2∧z.2≤10000000:=by
 rcases List.eq_nil_or_concat l with rfl | ⟨ll,z,hl⟩
 ·rw [Nh];intro z aW;simp at aW;subst aW;exact hs
 ·rw [List.concat_eq_append] at hl;subst hl;have aW:=h z (by simp)
  by_cases hc:s.1≤z.2 + 1
  ·rw [JT _ _ _ hc];intro y hy
   rcases List.mem_append.1 hy with hy | hy
   ·exact h y (by simp [hy])
   ·simp at hy;subst hy;simp only;omega
  ·rw [JU _ _ _ hc];intro y hy
   rcases List.mem_append.1 hy with hy | hy
   ·exact h y hy
   ·simp at hy;subst hy;exact hs
theorem Xa (l:List (Int × Int)) (s:Int × Int):(qw l s).length≤l.length + 1:=by
 rcases List.eq_nil_or_concat l with rfl | ⟨ll,z,hl⟩
 ·simp [qw]
 ·rw [List.concat_eq_append] at hl;subst hl
  by_cases hc:s.1≤z.2 + 1
  ·rw [JT _ _ _ hc];simp
  ·rw [JU _ _ _ hc];simp
theorem GI {w:World} {g T:Nat} {a b:Value} (h:w.heap[g]? =some (.cells #[a,b] T (0,0))):w.cell? ⟨g,0,none⟩=some a∧w.cell? ⟨g,1,none⟩=some b∧∀ o,w.frozen? ⟨g,o,none⟩=false:=by
 simp [World.cell?,World.frozen?,h]
theorem T6 {l:List (Int × Int)} {n:Nat} {x:Int} (h:n < l.length):s4 l n x=decide (l[n].1≤x):=by
 simp [s4,h]
theorem T7 {l:List (Int × Int)} {n:Nat} {x:Int} (h:¬ n < l.length):s4 l n x=false:=by
 simp [s4,h]
def Bc (w:World) (a:Addr):Nat:=match w.cell? a with | some (.int _ x)=> x.toNat | _=> 0
theorem OP {T kb:Nat} {z:Value} {bytes:Nat} (ht:Tryz.prog.underlying T=some (.slice kb)) (hi:(Tryz.prog.info? kb).map (fun i=> (i.zero,i.size,i.bytes))=some (some z,1,bytes)) (aW:z.cells=#[z]) (ad:bytes≤8) (W:World):
  (Instr.makeSlice T (H J 2) (H J 2)).run Tryz.prog W=.ok (M (some ⟨W.heap.size,0,none⟩) 2 2) (W.alloc (.cells #[z,z] kb)):=by
 obtain ⟨gq,kn,dQ,fj,eI⟩:=info_parts hi;have h:=run_make (P:=Tryz.prog) W T kb gq z ht kn dQ .i64 .i64 2 2 (by omega) (Int.le_refl _) (by rw [eI];omega) (by omega);rw [h,aW,alz,fj,show (2:Int).toNat=2 by decide]
 rfl
theorem aiq (ai:Nat) (kp:Bool→Bool→Bool) (aG:Nat) (aa jy:Option Addr) (ac m0:Nat) (b7 U:List (Int × Int)) (w:World) (he:n2 ai)
  (ck:∀ (g c:Nat) (b0 b1:Bool) (W:World),W.cell? ⟨g,0,none⟩=some (F b0)→W.cell? ⟨g,1,none⟩=some (F b1)→Calls Tryz.prog ai #[M (some ⟨g,0,none⟩) 2 c] W fun e w'=> e=.returned (F (kp b0 b1))∧w'=W)
  (hl:B4 w aG aa ac b7 jy m0 U) (b8:lZ b7) (ad:lZ U) (hal:b7.length≤64) (hbl:U.length≤64) (hne:b7 ++ U≠[]):
  Calls Tryz.prog 151 #[.func (Fn.func ai) #[] #[],M (some ⟨aG,0,none⟩) 2 2] w fun e w'=> ∃ (a:Option Nat) (c:Nat),e=.returned (de a (tn kp b7 U).length c)∧cr w' 86 2 a (tn kp b7 U).length c (gU (tn kp b7 U))∧I [] w w'∧∀ g,a=some g→w.heap.size≤g:=by
 obtain ⟨gq,kn,dQ,fj,eI⟩:=info_parts T9;have gH:=C kn;have gI:=C dQ;have gJ:=C fj;have gK:=C eI;clear kn dQ fj eI;unfold n2 at he;have cX:=C ck;have jG:=C hl;have kR:=C b8.Fe;have jE:=C ad.Fe;have C8:=C hne;have sz:=C hal;have kS:=C hbl;have h2:(2:Int)=((2:Nat):Int):=rfl;clear ck hl b8 ad hne h2 hal hbl;go_enter Tryz.func151,Tryz.ntmps151
 go_wp2
 go_loopw [5,19] (fun v i wr=> ∃ (j:Nat) (dZ:Option Nat) (c':Nat),j≤2∧i=H J j∧v=de dZ (ld (CO b7 U j)).length c'∧cr wr 3 1 dZ (ld (CO b7 U j)).length c' ((ld (CO b7 U j)).map (H J))∧I [] w wr∧∀ g,dZ=some g→w.heap.size≤g) (fun _ i _=> 2 - (intOf i).toNat)
 case atStart=> exact ⟨0,none,0,by omega,rfl,rfl,cr.nil _ _ _,I.refl _ _,by simp⟩
 case round=>
  obtain ⟨j,dZ,c',c8,rfl,rfl,dd,jI,hga⟩:=hrel;have hU:=C dd;have jF:=C jI;have nj:=C hga;clear dd jI hga
  by_cases aQ:j < 2
  ·obtain ⟨cS,dH,l,zY,dF,FU,l6,hj1,HP⟩:=jG.o.at_ j aQ;have hc:=jF.o.c zY;clear zY;have FH:∀ i (h:i < l.length),0≤l[i].1∧l[i].1≤l[i].2∧l[i].2≤1114111:=by
    rcases HP with rfl | rfl
    ·exact kR.o
    ·exact jE.o
   have Lk:l.length≤64:=by
    rcases HP with rfl | rfl
    ·exact sz.o
    ·exact kS.o
   have mM:(CO b7 U j).length≤128:=by
    have h1:=sz.o;have h2:=kS.o
    have:j=0∨j=1:=by omega
    rcases this with rfl | rfl
    ·simp [CO]
    ·show b7.length≤128;omega
   have fp:=C dF;have afV:=C dF;have BU:=C FU;have sC:=C FH;have hI:=C mM;have HS:(j:Int) < 2:=by omega
   obtain ⟨P,gm⟩:∃ P,P=CO b7 U j:=⟨_,rfl⟩;rw [←gm] at hU BU hI ⊢;have eg:=C gm;clear dF FU FH mM l6 hj1 HP gm;go_wp2
   go_loopw [5,25] (fun v i qU=> ∃ (k:Nat) (a2:Option Nat) (c2:Nat),k≤l.length∧i=H J k∧v=de a2 (ld (P ++ l.take k)).length c2∧cr qU 3 1 a2 (ld (P ++ l.take k)).length c2 ((ld (P ++ l.take k)).map (H J))∧I [] w qU∧∀ g,a2=some g→w.heap.size≤g) (fun _ i _=> l.length - (intOf i).toNat)
   case atStart=> exact ⟨0,dZ,c',by omega,rfl,by rw [List.take_zero,List.append_nil],by rw [List.take_zero,List.append_nil];exact hU.o,jF.o,nj.o⟩
   case round=>
    obtain ⟨k,a2,c2,hk,rfl,rfl,Lz,n8,SY⟩:=hrel;have j3:=C Lz;have r1:=C n8;have r0:=C SY;clear Lz SY hc
    by_cases FI:k < l.length
    ·obtain ⟨b,off,rfl,lk,hx⟩:=(afV.o.ah n8).at_ (by have:=fp.o.le;omega);obtain ⟨dv,dI⟩:=hx k FI;obtain ⟨cR,eH,iV⟩:=sC.o k FI;have sY:l.take (k + 1)=l.take k ++ [l[k]]:=List.take_succ_eq_append_getElem FI
     generalize l[k]=s at *
     obtain ⟨lo,hi⟩:=s;simp only at dv dI cR eH iV;have KX:ld (P ++ l.take (k + 1))=ld (P ++ l.take k) ++ [lo,hi + 1]:=by
      rw [sY,←List.append_assoc,XC (P ++ l.take k)];rfl
     have I7:=C KX;obtain ⟨kb,Bg⟩:∃ kb,kb=ld (P ++ l.take k):=⟨_,rfl⟩;have Sd:kb.length≤100000:=by
      have h1:=hI.o;rw [Bg,Fj,List.length_append,List.length_take];omega
     rw [←Bg] at j3 I7 ⊢;have mN:IntKind.i64.wrap (hi + 1)=hi + 1:=IntWalk.i64_in _ (by omega);obtain ⟨n,hn⟩:∃ n,n=kb.length:=⟨_,rfl⟩;rw [←hn] at j3 Sd ⊢;have dP:=C hn;clear hx sY KX n8 lk Bg hn
     go_wp2_with (at_builtin;refine yb rfl (.tmp 29) (.tmp 35) 22 rfl 3 gq _ 1 8 Tryz.underlying22 gH.o gI.o gJ.o gK.o rfl (by decide) a2 n c2 _ rfl ((j3.o.alloc _).alloc _) ⟨wr.heap.size + 1,0,none⟩ 2 2 [H J lo,H J (hi + 1)] rfl rfl ?hnews ?hone (by decide) (by omega) (by omega) ?hk)
     case hnews=> exact x4 _ _ _ _ (by simp)
     case hone=> intro u cy;simp at cy;rcases cy with rfl | rfl <;> rfl
     case hk=>
      intro g an w3 qF aP il;have hga:∀ x∈a2.toList,w.heap.size≤x:=fun x hx=> r0.o x (by simpa using hx);have aR:=C ((r1.o.trans (I.a2 _ _ _)).cn aP (fun x hx=> .inr (hga x hx)));have Ac:w.heap.size≤g:=by
       rcases il with h | h
       ·exact r0.o g h
       ·have h:wr.heap.size + 1 + 1≤g:=h
        have:=r1.o.size
        omega
      have Jf:=C Ac;have D4:cr w3 3 1 (some g) (kb ++ [lo,hi + 1]).length an ((kb ++ [lo,hi + 1]).map (H J)):=by
       rw [List.length_append,List.map_append,←dP.o];exact qF
      have afP:=C D4;clear qF aP il hga Ac D4 dv dI;go_wp2;go_roundw
      case rel=> exact ⟨k + 1,some g,an,by omega,by go_num,by rw [I7.o,List.length_append,←dP.o];rfl,by rw [I7.o];exact afP.o,aR.o,fun x hx=> by cases hx;exact Jf.o⟩
      case measure=> simp [intOf];omega
    ·obtain rfl:k=l.length:=by omega
     rw [List.take_length] at j3 ⊢;have yL:=BU.o;rw [←yL] at j3 ⊢;clear yL n8 hk FI;go_wp2;go_roundw
     case rel=> exact ⟨j + 1,a2,c2,by omega,by go_num,rfl,j3.o,r1.o,r0.o⟩
     case measure=> simp [intOf];omega
  ·obtain rfl:j=2:=by omega
   have FU:CO b7 U 2=b7 ++ U:=rfl;rw [FU] at hU ⊢;have Ag:0 < (ld (b7 ++ U)).length:=by
    rw [Fj]
    have:=List.length_pos_iff.2 C8.o
    omega
   have oB:(ld (b7 ++ U)).length≤1000:=by
    have h1:=sz.o;have h2:=kS.o;rw [Fj,List.length_append];omega
   have KY:wS b7 U=Lib.compact ((ld (b7 ++ U)).mergeSort fun x y=> decide (x≤y)):=rfl;obtain ⟨bR,tz⟩:∃ bR,bR=ld (b7 ++ U):=⟨_,rfl⟩;rw [←tz] at hU Ag oB KY ⊢
   cases dZ with
   | none=>
    have:=hU.o.2.1
    omega
   | some kb=>
    have Yk:=nj.o kb rfl;have VB:=C Yk;have fx:=C (fun (W:World) (h:cr W 3 1 (some kb) bR.length c' (bR.map (H J)))=> anZ kb c' bR W h (by omega));have rL:(bR.mergeSort fun x y=> decide (x≤y)).length=bR.length:=List.length_mergeSort bR;obtain ⟨kZ,Ie⟩:∃ kZ,kZ=(bR.mergeSort fun x y=> decide (x≤y)):=⟨_,rfl⟩;rw [←Ie] at fx rL KY;have zp:=C (fun (W:World) (h:cr W 3 1 (some kb) kZ.length c' (kZ.map (H J)))=> aiu kb c' kZ W h (by omega));have sW:=RJ kZ;obtain ⟨oy,K0⟩:∃ oy,oy=Lib.compact kZ:=⟨_,rfl⟩;rw [←K0] at zp KY sW;have I8:=C KY;have HJ:oy.length≤1000:=by omega
    have G1:=C rL;simp only [de,Option.map_some];clear Yk Ie K0 tz FU aQ c8 KY sW Ag rL;go_wp2_with fail
    refine Calls.mono (fx.o _ hU.o) ?_;rintro e w2 ⟨rfl,gn,hk2⟩;have aU:=C (jF.o.cn hk2 (by intro x hx;simp at hx;subst hx;exact .inr VB.o));rw [←G1.o] at gn;have j3:=C gn;clear gn hk2 hU jF;go_wp2_with fail
    rw [←G1.o];refine Calls.mono (zp.o _ j3.o) ?_;rintro e w3 ⟨rfl,kW,aP⟩;have aR:=C (aU.o.cn aP (by intro x hx;simp at hx;subst hx;exact .inr VB.o));have qo:=C kW;clear kW aP j3 aU G1 fx zp;have hA:=OP Tryz.underlying142 abg rfl (by omega);have qD:=OP Tryz.underlying22 T9 rfl (by omega);go_upto_region 16 with fail
    clear hA qD;obtain ⟨kj,Sm⟩:∃ kj,kj=w3.heap.size:=⟨_,rfl⟩;obtain ⟨gy,rF⟩:∃ gy,gy=w3.heap.size + 1:=⟨_,rfl⟩;obtain ⟨aE,hX⟩:∃ aE,aE=(w3.alloc (.cells #[F false,F false] 4)).alloc (.cells #[H J 0,H J 0] 3):=⟨_,rfl⟩;have cq:I [] w3 aE:=by rw [hX];exact I.a2 _ _ _
    have YH:aE.heap[kj]? =some (.cells #[F false,F false] 4 (0,0)):=by rw [hX,Sm];exact (I.a1 _ _).heap (heap_alloc_new w3 _) (by simp)
    have YI:aE.heap[gy]? =some (.cells #[H J (0:Nat),H J (0:Nat)] 3 (0,0)):=by rw [hX,rF];exact heap_alloc2_new w3 _ _
    have Kx:aE.heap.size=w3.heap.size + 2:=by rw [hX];simp
    rw [←hX,←rF,←Sm];have Sd:=qo.o.lt;have vd:=aR.o.size;have k1:=C (show kb < kj∧gy=kj + 1∧aE.heap.size=gy + 1∧w.heap.size≤kj by omega);have V1:=C (qo.o.ah cq (by simp));have j4:=C (aR.o.trans cq);have agi:=C YH;have agj:=C YI;have PW:=C (aiM kR.o jE.o);rw [I8.o] at PW;clear Sm rF hX cq YH YI Kx Sd vd qo aR;go_wp2
    go_loopw [12,13] (fun v i wr=> ∃ (k n0 n1:Nat) (b0 b1:Bool) (out:List (Int × Int)) (a3:Option Nat) (an:Nat),i=H J k∧k≤oy.length∧v=de a3 out.length an∧cr wr 86 2 a3 out.length an (gU out)∧yA kp b7 U (oy.drop k) n0 n1 out=tn kp b7 U∧n0≤b7.length∧n1≤U.length∧wr.heap[gy]? =some (.cells #[H J n0,H J n1] 3 (0,0))∧wr.heap[kj]? =some (.cells #[F b0,F b1] 4 (0,0))∧I [] w wr∧I [gy,kj] aE wr∧(∀ g,a3=some g→aE.heap.size≤g)∧out.length≤k∧∀ z∈out,-10≤z.2∧z.2≤10000000) (fun _ i _=> oy.length - (intOf i).toNat)
    case atStart=> exact ⟨0,0,0,false,false,[],none,0,rfl,by omega,rfl,cr.nil _ _ _,by rw [List.drop_zero];show _=yA kp b7 U (wS b7 U) 0 0 [];rw [I8.o],by omega,by omega,agj.o,agi.o,j4.o,I.refl _ _,by simp,by simp,by simp⟩
    case round=>
     obtain ⟨k,n0,n1,b0,b1,out,a3,an,rfl,hk,rfl,gp,NT,iC,hB,Ov,aa5,jI,hkx,hga,DZ,Cx⟩:=hrel;have fx:=C gp;have GV:=C NT;have Wh:=C Ov;have Wg:=C aa5;have jF:=C jI;have aH:=C hkx;have nj:=C hga;have ES:=C DZ;have yq:=C Cx;have tN:=C iC;have r2:=C hB;have mN:IntKind.i64.wrap ((k:Int) + 1)=(k:Int) + 1:=IntWalk.i64_in _ (by omega);clear gp NT Ov aa5 jI hkx hga DZ Cx iC hB
     by_cases aQ:k + 1 < oy.length
     ·have HS:(k:Int) + 1 < (oy.length:Int):=by omega
      have Tk:k < oy.length:=by omega
      have aqN:(k:Int) < (oy.length:Int):=by omega
      have dB:oy.drop k=oy[k]::oy[k + 1]::oy.drop (k + 2):=by rw [List.drop_eq_getElem_cons Tk,List.drop_eq_getElem_cons aQ]
      have oX:oy.drop (k + 1)=oy[k + 1]::oy.drop (k + 2):=by rw [List.drop_eq_getElem_cons aQ]
      have eD:=V1.o.cell k (by simpa using Tk);have oa:=V1.o.cell (k + 1) (by simpa using aQ);have Sc:kb ∉ [gy,kj]:=by have:=k1.o;simp;omega
      have mi:=aH.o.cell eD Sc;have D9:=aH.o.cell oa Sc;simp only [List.getElem_map] at mi D9;have Ia:=PW.o oy[k] (List.getElem_mem Tk);have yT:=PW.o oy[k + 1] (List.getElem_mem aQ);obtain ⟨x,hx⟩:∃ x,x=oy[k]:=⟨_,rfl⟩;obtain ⟨y,hy⟩:∃ y,y=oy[k + 1]:=⟨_,rfl⟩;rw [←hx,←hy] at dB;rw [←hy] at oX;rw [←hx] at mi Ia;rw [←hy] at D9 yT;obtain ⟨bW,cQ⟩:∃ bW,bW=mc b7 n0 x:=⟨_,rfl⟩;obtain ⟨m1,hA⟩:∃ m1,m1=mc U n1 x:=⟨_,rfl⟩;have Y1:yA kp b7 U (oy.drop (k + 1)) bW m1 (if kp (s4 b7 bW x) (s4 U m1 x)=true then qw out (x,y - 1) else out)=tn kp b7 U:=by
       rw [←GV.o,dB,oX,yA,←cQ,←hA]
      have aeE:=C Y1;have afe:=C cQ.symm;have aff:=C hA.symm;have jo:=C (show bW≤b7.length by rw [cQ];exact Rr _ _ _ tN.o);have xu:=C (show m1≤U.length by rw [hA];exact Rr _ _ _ r2.o);have Jz:=C yT;have MX:=C D9;clear dB oX eD oa Ia yT hx hy cQ hA Y1 GV Sc;obtain ⟨U5,Ow⟩:∃ U5,U5=wr:=⟨_,rfl⟩;go_upto_region 20 with fail
      clear mi D9;go_wp2;rw [←Ow] at fx Wh Wg jF aH MX
      go_loopw [62] (fun i qU=> ∃ (j fQ p1:Nat) (q0 q1:Bool),j≤2∧i=H J j∧(j=0→fQ=n0)∧(j≤1→p1=n1)∧(1≤j→fQ=bW∧q0=s4 b7 bW x)∧(2≤j→p1=m1∧q1=s4 U m1 x)∧fQ≤b7.length∧p1≤U.length∧qU.heap[gy]? =some (.cells #[H J fQ,H J p1] 3 (0,0))∧qU.heap[kj]? =some (.cells #[F q0,F q1] 4 (0,0))∧I [gy,kj] U5 qU) (fun i _=> 2 - (intOf i).toNat)
      case atStart=> exact ⟨0,n0,n1,b0,b1,by omega,rfl,fun _=> rfl,fun _=> rfl,fun h=> by omega,fun h=> by omega,tN.o,r2.o,by rw [←Ow];exact Wh.o,by rw [←Ow];exact Wg.o,by rw [←Ow];exact I.refl _ _⟩
      case round=>
       obtain ⟨j,fQ,p1,q0,q1,c8,rfl,xU,hp1,hj1,tu,bN,p3,pw,Zv,n8⟩:=hrel;have tO:=C pw;have EJ:=C Zv;have xr:=C n8;have G4:=C bN;have BV:=C p3;have AZ:=C (show I [] w wr from jF.o.cn n8 (by intro y hy;simp at hy;have h1:=k1.o;rcases hy with rfl | rfl <;> exact .inr (by omega)));clear pw Zv n8 bN p3
       by_cases hj3:j=2
       ·subst hj3;have Tu:=hj1 (by omega);have Tv:=tu (by omega);have VS:=C Tu;have VT:=C Tv;obtain ⟨OA,OB,T5⟩:=GI EJ.o;have Ic:=xr.o.cell MX.o (by have:=k1.o;simp;omega);obtain ⟨xf,n8⟩:∃ xf,xf=kp q0 q1:=⟨_,rfl⟩;have P6:=C (cX.o kj 2 q0 q1 wr OA OB);rw [←n8] at P6;have SN:=aeE.o;rw [←Tu.2,←Tv.2,←n8] at SN;have Vs:=C SN;have yT:=Jz.o;have aq9:IntKind.i64.wrap (y - 1)=y - 1:=IntWalk.i64_in _ (by omega);have aqB:(0:Int)≤(k:Int) + 1:=by omega
        have aqC:((k:Int) + 1).toNat=k + 1:=by omega
        have SX:∀ g,a3=some g→g ∉ [gy,kj]:=fun g hg=> by have h1:=nj.o g hg;have h2:=k1.o;simp;omega
        have dd:cr wr 86 2 a3 out.length an (gU out):=fx.o.ah xr.o SX;have hU:=C dd;have apd:=C SX;clear xU hp1 hj1 tu c8 Tu Tv n8 SN yT SX dd OA OB T5
        cases xf with
        | false=>
         have KQ:yA kp b7 U (oy.drop (k + 1)) bW m1 out=tn kp b7 U:=by rw [←Vs.o];rfl
         have PR:=C KQ;clear KQ;go_wp2_with fail
         refine Calls.mono P6.o ?_;rintro e bS ⟨rfl,rfl⟩;go_wp2;go_roundw
         case rel=> exact ⟨k + 1,bW,m1,q0,q1,out,a3,an,by go_num,by omega,rfl,hU.o,PR.o,jo.o,xu.o,by rw [←VS.o.1,←VT.o.1];exact tO.o,EJ.o,AZ.o,aH.o.trans xr.o,nj.o,by have:=ES.o;omega,yq.o⟩
         case measure=> simp [intOf];omega
        | true=>
         have KQ:yA kp b7 U (oy.drop (k + 1)) bW m1 (qw out (x,y - 1))=tn kp b7 U:=by rw [←Vs.o];rfl
         have PR:=C KQ;have DZ:out.length≤100000:=by have:=ES.o;omega
         have aeu:=C (fun (W:World) (h:cr W 86 2 a3 out.length an (gU out))=> ahK a3 an out x (y - 1) W h yq.o DZ);clear KQ DZ;go_wp2_with fail
         refine Calls.mono P6.o ?_;rintro e bS ⟨rfl,rfl⟩;go_wp2_with fail
         refine Calls.mono (aeu.o _ hU.o) ?_;rintro e hG ⟨dz,ax,rfl,D3,hV,xN⟩;have hga3:∀ z∈a3.toList,aE.heap.size≤z:=fun z aW=> nj.o z (by simpa using aW);have hin:=k1.o;have F6:=aH.o.size;have akT:=xr.o.size;have ahb:=C D3;have agG:=C (hV.heap tO.o (fun h=> by have:=hga3 _ h;omega));have agr:=C (hV.heap EJ.o (fun h=> by have:=hga3 _ h;omega));have eJ:=C (AZ.o.cn hV (fun z aW=> .inr (by have:=hga3 z aW;omega)));have ahw:=C ((aH.o.trans xr.o).cn hV (fun z aW=> .inr (hga3 z aW)));have IW:=C (show aE.heap.size≤dz by rcases xN with h | h;exact nj.o dz h;omega);have sv:=C (W8 (s:=(x,y - 1)) yq.o (by simp only;have:=Jz.o;omega));have agC:=C (show (qw out (x,y - 1)).length≤k + 1 by have:=Xa out (x,y - 1);have:=ES.o;omega);clear D3 hV xN hga3 hin F6 akT;go_wp2;go_roundw
         case rel=> exact ⟨k + 1,bW,m1,q0,q1,qw out (x,y - 1),some dz,ax,by go_num,by omega,rfl,ahb.o,PR.o,jo.o,xu.o,by rw [←VS.o.1,←VT.o.1];exact agG.o,agr.o,eJ.o,ahw.o,fun z aW=> by cases aW;exact IW.o,agC.o,sv.o⟩
         case measure=> simp [intOf];omega
       ·have aj3:j=0∨j=1:=by omega
        clear hj3
        rcases aj3 with rfl | rfl
        ·skip
         have BT:=C (show mc b7 fQ x=bW by rw [xU rfl];exact afe.o);have xv:=C (hp1 (by omega));obtain ⟨GL,CD⟩:∃ GL,GL=wr:=⟨_,rfl⟩;have dF:=(jG.o.ah AZ.o).c0;have yI:=(jG.o.ah AZ.o).ar;have fp:=C dF;clear xU hp1 hj1 tu c8 dF;go_wp2;rw [←CD] at tO EJ xr AZ fp
         go_loopw [] (fun CZ=> ∃ ae:Nat,ae≤b7.length∧mc b7 ae x=bW∧CZ.heap[gy]? =some (.cells #[H J ae,H J p1] 3 (0,0))∧I [gy] GL CZ) (fun CZ=> b7.length - Bc CZ ⟨gy,0,none⟩)
         case atStart=> exact ⟨fQ,G4.o,BT.o,by rw [←CD];exact tO.o,by rw [←CD];exact I.refl _ _⟩
         case round=>
          clear CD yI;obtain ⟨ae,hq,KJ,FN,rK⟩:=hrel;have lW:=C rK;have BQ:=C FN;have BJ:=C (rK.heap EJ.o (by have:=k1.o;simp;omega));obtain ⟨z0,z1,cj⟩:=GI FN;obtain ⟨OA,OB,T5⟩:=GI BJ.o;have FG:I [] w wr:=AZ.o.cn rK (by intro y hy;simp at hy;subst hy;exact .inr (by have:=k1.o;omega));have EV:=C hq;have EE:=C KJ;have Fx:Bc wr ⟨gy,0,none⟩=ae:=by simp only [Bc,z0];simp
          have vt:=C Fx;have vY:ae≤64:=Nat.le_trans hq sz.o;have akP:IntKind.i64.wrap ((ae:Int) + 1)=(ae:Int) + 1:=IntWalk.i64_in _ (by omega);clear FN rK KJ Fx hq
          by_cases hlq:ae < b7.length
          ·obtain ⟨sb,UW,TG,TH,pz⟩:=((jG.o.ah FG).c0).at_ (by have:=fp.o.le;omega);subst TG;obtain ⟨dv,dI⟩:=pz ae hlq;have Tj:(ae:Int) < (b7.length:Int):=by omega
           have eE:=Xc b7 ae x hlq;have dF:=Ni b7 ae x;have hin:=T6 (x:=x) hlq;have fq:=C eE;have Jv:=C dF;have BI:=C hin;obtain ⟨lo,kH⟩:∃ lo,lo=b7[ae].1:=⟨_,rfl⟩;obtain ⟨hi,ts⟩:∃ hi,hi=b7[ae].2:=⟨_,rfl⟩;rw [←kH] at dv;rw [←ts] at dI;have EN:=C kH;have EI:=C ts;clear pz eE dF hin kH ts FG TH
           by_cases s0:hi < x
           ·have ln:=(I.refl [gy] wr).setCell (p:=⟨gy,0,none⟩) (.inl (by simp)) (H J ((ae:Int) + 1));have fZ:=C ln;have K5:(wr.setCell ⟨gy,0,none⟩ (H J ((ae:Int) + 1))).heap[gy]? =some (.cells #[H J ((ae + 1:Nat):Int),H J p1] 3 (0,0)):=heap_setCell_same wr gy 0 _ _ _ BQ.o;have Jg:=C K5;have PK:=C (show mc b7 (ae + 1) x=bW by rw [←fq.o (by rw [←EI.o];exact s0)];exact EE.o);have KR:Bc (wr.setCell ⟨gy,0,none⟩ (H J ((ae:Int) + 1))) ⟨gy,0,none⟩=ae + 1:=by
             simp only [Bc,(GI Jg.o).1];simp
            have PS:=C KR;clear ln K5 KR;go_wp2;go_roundw
            case rel=> exact ⟨ae + 1,by omega,PK.o,Jg.o,lW.o.trans fZ.o⟩
            case measure=> rw [PS.o,vt.o];omega
           ·have vD:=C (show ae=bW by rw [←EE.o,Jv.o (fun h=> by rw [←EI.o];exact s0)])
            by_cases fc:lo≤x
            ·clear vt;have en:=C (show true=s4 b7 bW x from by rw [←vD.o,BI.o,←EN.o];simp [fc]);have ln:=(I.refl [kj] wr).setCell (p:=⟨kj,0,none⟩) (.inl (by simp)) (F true);have zy:=C (ln.heap BQ.o (by have:=k1.o;simp;omega));have zt:=C (show (wr.setCell ⟨kj,0,none⟩ (F true)).heap[kj]? =some (.cells #[F true,F q1] 4 (0,0)) from heap_setCell_same wr kj 0 _ _ _ BJ.o);have zv:=C ((xr.o.trans (lW.o.mono (by simp))).trans (ln.mono (by simp)));clear ln;go_wp2;go_roundw
             case rel=> exact ⟨1,ae,p1,true,q1,by omega,rfl,fun h=> by omega,fun _=> xv.o,fun _=> ⟨vD.o,en.o⟩,fun h=> by omega,EV.o,BV.o,zy.o,zt.o,zv.o⟩
             case measure=> simp [intOf]
            ·clear vt;have en:=C (show false=s4 b7 bW x from by rw [←vD.o,BI.o,←EN.o];simp [fc]);have ln:=(I.refl [kj] wr).setCell (p:=⟨kj,0,none⟩) (.inl (by simp)) (F false);have zy:=C (ln.heap BQ.o (by have:=k1.o;simp;omega));have zt:=C (show (wr.setCell ⟨kj,0,none⟩ (F false)).heap[kj]? =some (.cells #[F false,F q1] 4 (0,0)) from heap_setCell_same wr kj 0 _ _ _ BJ.o);have zv:=C ((xr.o.trans (lW.o.mono (by simp))).trans (ln.mono (by simp)));clear ln;go_wp2;go_roundw
             case rel=> exact ⟨1,ae,p1,false,q1,by omega,rfl,fun h=> by omega,fun _=> xv.o,fun _=> ⟨vD.o,en.o⟩,fun h=> by omega,EV.o,BV.o,zy.o,zt.o,zv.o⟩
             case measure=> simp [intOf]
          ·have vD:=C (show ae=bW by rw [←EE.o,Ni _ _ _ (fun h=> absurd h hlq)]);have Tj:¬ (ae:Int) < (b7.length:Int):=by omega
           have hin:=T7 (x:=x) hlq;have BI:=C hin;clear hin FG vt;have en:=C (show false=s4 b7 bW x from by rw [←vD.o,BI.o]);have ln:=(I.refl [kj] wr).setCell (p:=⟨kj,0,none⟩) (.inl (by simp)) (F false);have zy:=C (ln.heap BQ.o (by have:=k1.o;simp;omega));have zt:=C (show (wr.setCell ⟨kj,0,none⟩ (F false)).heap[kj]? =some (.cells #[F false,F q1] 4 (0,0)) from heap_setCell_same wr kj 0 _ _ _ BJ.o);have zv:=C ((xr.o.trans (lW.o.mono (by simp))).trans (ln.mono (by simp)));clear ln;go_wp2;go_roundw
           case rel=> exact ⟨1,ae,p1,false,q1,by omega,rfl,fun h=> by omega,fun _=> xv.o,fun _=> ⟨vD.o,en.o⟩,fun h=> by omega,EV.o,BV.o,zy.o,zt.o,zv.o⟩
           case measure=> simp [intOf]
        ·skip
         have BT:=C (show mc U p1 x=m1 by rw [hp1 (by omega)];exact aff.o);have Qu:=C (hj1 (by omega));obtain ⟨GL,CD⟩:∃ GL,GL=wr:=⟨_,rfl⟩;have dF:=(jG.o.ah AZ.o).cT;have yI:=(jG.o.ah AZ.o).c1;have fp:=C dF;clear xU hp1 hj1 tu c8 dF;go_wp2;rw [←CD] at tO EJ xr AZ fp
         go_loopw [] (fun CZ=> ∃ ae:Nat,ae≤U.length∧mc U ae x=m1∧CZ.heap[gy]? =some (.cells #[H J fQ,H J ae] 3 (0,0))∧I [gy] GL CZ) (fun CZ=> U.length - Bc CZ ⟨gy,1,none⟩)
         case atStart=> exact ⟨p1,BV.o,BT.o,by rw [←CD];exact tO.o,by rw [←CD];exact I.refl _ _⟩
         case round=>
          clear CD yI;obtain ⟨ae,hq,KJ,FN,rK⟩:=hrel;have lW:=C rK;have BQ:=C FN;have BJ:=C (rK.heap EJ.o (by have:=k1.o;simp;omega));obtain ⟨z0,z1,cj⟩:=GI FN;obtain ⟨OA,OB,T5⟩:=GI BJ.o;have FG:I [] w wr:=AZ.o.cn rK (by intro y hy;simp at hy;subst hy;exact .inr (by have:=k1.o;omega));have EV:=C hq;have EE:=C KJ;have Fx:Bc wr ⟨gy,1,none⟩=ae:=by simp only [Bc,z1];simp
          have vt:=C Fx;have vY:ae≤64:=Nat.le_trans hq kS.o;have akP:IntKind.i64.wrap ((ae:Int) + 1)=(ae:Int) + 1:=IntWalk.i64_in _ (by omega);clear FN rK KJ Fx hq
          by_cases hlq:ae < U.length
          ·obtain ⟨sb,UW,TG,TH,pz⟩:=((jG.o.ah FG).cT).at_ (by have:=fp.o.le;omega);subst TG;obtain ⟨dv,dI⟩:=pz ae hlq;have Tj:(ae:Int) < (U.length:Int):=by omega
           have eE:=Xc U ae x hlq;have dF:=Ni U ae x;have hin:=T6 (x:=x) hlq;have fq:=C eE;have Jv:=C dF;have BI:=C hin;obtain ⟨lo,kH⟩:∃ lo,lo=U[ae].1:=⟨_,rfl⟩;obtain ⟨hi,ts⟩:∃ hi,hi=U[ae].2:=⟨_,rfl⟩;rw [←kH] at dv;rw [←ts] at dI;have EN:=C kH;have EI:=C ts;clear pz eE dF hin kH ts FG TH
           by_cases s0:hi < x
           ·have ln:=(I.refl [gy] wr).setCell (p:=⟨gy,1,none⟩) (.inl (by simp)) (H J ((ae:Int) + 1));have fZ:=C ln;have K5:(wr.setCell ⟨gy,1,none⟩ (H J ((ae:Int) + 1))).heap[gy]? =some (.cells #[H J fQ,H J ((ae + 1:Nat):Int)] 3 (0,0)):=heap_setCell_same wr gy 1 _ _ _ BQ.o;have Jg:=C K5;have PK:=C (show mc U (ae + 1) x=m1 by rw [←fq.o (by rw [←EI.o];exact s0)];exact EE.o);have KR:Bc (wr.setCell ⟨gy,1,none⟩ (H J ((ae:Int) + 1))) ⟨gy,1,none⟩=ae + 1:=by
             simp only [Bc,(GI Jg.o).2.1];simp
            have PS:=C KR;clear ln K5 KR;go_wp2;go_roundw
            case rel=> exact ⟨ae + 1,by omega,PK.o,Jg.o,lW.o.trans fZ.o⟩
            case measure=> rw [PS.o,vt.o];omega
           ·have vD:=C (show ae=m1 by rw [←EE.o,Jv.o (fun h=> by rw [←EI.o];exact s0)])
            by_cases fc:lo≤x
            ·clear vt;have en:=C (show true=s4 U m1 x from by rw [←vD.o,BI.o,←EN.o];simp [fc]);have ln:=(I.refl [kj] wr).setCell (p:=⟨kj,1,none⟩) (.inl (by simp)) (F true);have zy:=C (ln.heap BQ.o (by have:=k1.o;simp;omega));have zt:=C (show (wr.setCell ⟨kj,1,none⟩ (F true)).heap[kj]? =some (.cells #[F q0,F true] 4 (0,0)) from heap_setCell_same wr kj 1 _ _ _ BJ.o);have zv:=C ((xr.o.trans (lW.o.mono (by simp))).trans (ln.mono (by simp)));clear ln;go_wp2;go_roundw
             case rel=> exact ⟨2,fQ,ae,q0,true,by omega,rfl,fun h=> by omega,fun h=> by omega,fun _=> Qu.o,fun _=> ⟨vD.o,en.o⟩,G4.o,EV.o,zy.o,zt.o,zv.o⟩
             case measure=> simp [intOf]
            ·clear vt;have en:=C (show false=s4 U m1 x from by rw [←vD.o,BI.o,←EN.o];simp [fc]);have ln:=(I.refl [kj] wr).setCell (p:=⟨kj,1,none⟩) (.inl (by simp)) (F false);have zy:=C (ln.heap BQ.o (by have:=k1.o;simp;omega));have zt:=C (show (wr.setCell ⟨kj,1,none⟩ (F false)).heap[kj]? =some (.cells #[F q0,F false] 4 (0,0)) from heap_setCell_same wr kj 1 _ _ _ BJ.o);have zv:=C ((xr.o.trans (lW.o.mono (by simp))).trans (ln.mono (by simp)));clear ln;go_wp2;go_roundw
             case rel=> exact ⟨2,fQ,ae,q0,false,by omega,rfl,fun h=> by omega,fun h=> by omega,fun _=> Qu.o,fun _=> ⟨vD.o,en.o⟩,G4.o,EV.o,zy.o,zt.o,zv.o⟩
             case measure=> simp [intOf]
          ·have vD:=C (show ae=m1 by rw [←EE.o,Ni _ _ _ (fun h=> absurd h hlq)]);have Tj:¬ (ae:Int) < (U.length:Int):=by omega
           have hin:=T7 (x:=x) hlq;have BI:=C hin;clear hin FG vt;have en:=C (show false=s4 U m1 x from by rw [←vD.o,BI.o]);have ln:=(I.refl [kj] wr).setCell (p:=⟨kj,1,none⟩) (.inl (by simp)) (F false);have zy:=C (ln.heap BQ.o (by have:=k1.o;simp;omega));have zt:=C (show (wr.setCell ⟨kj,1,none⟩ (F false)).heap[kj]? =some (.cells #[F q0,F false] 4 (0,0)) from heap_setCell_same wr kj 1 _ _ _ BJ.o);have zv:=C ((xr.o.trans (lW.o.mono (by simp))).trans (ln.mono (by simp)));clear ln;go_wp2;go_roundw
           case rel=> exact ⟨2,fQ,ae,q0,false,by omega,rfl,fun h=> by omega,fun h=> by omega,fun _=> Qu.o,fun _=> ⟨vD.o,en.o⟩,G4.o,EV.o,zy.o,zt.o,zv.o⟩
           case measure=> simp [intOf]
     ·have aqV:¬ (k:Int) + 1 < (oy.length:Int):=by omega
      have Cr:out=tn kp b7 U:=by rw [←GV.o,RH _ _ _ _ (by rw [List.length_drop];omega)]
      have gj:=C Cr;clear Cr;go_wp2;go_ret;exact ⟨a3,an,by rw [←gj.o];rfl,by rw [←gj.o];exact fx.o,jF.o,fun g hg=> by have h1:=nj.o g hg;have h2:=k1.o;omega⟩
theorem alh (w:World):Calls Tryz.prog 168 #[.int .u64 0] w fun e w'=> e=.returned (H J 0)∧w=w':=by
 have ix:Lib.len8 0=0:=by decide +kernel
 have lg:wrap64 0=0:=by unfold wrap64;omega
 go_enter Tryz.func168,Tryz.ntmps168
 go_wp2;go_ret;exact ⟨rfl,rfl⟩
theorem ali (w:World):Calls Tryz.prog 157 #[.int .u64 0] w fun e w'=> e=.returned (H J 0)∧w=w':=by
 go_enter Tryz.func157,Tryz.ntmps157
 go_wp2_with fail
 refine Calls.mono (alh _) ?_;rintro e w2 ⟨rfl,rfl⟩;go_wp2;go_ret;exact ⟨rfl,rfl⟩
theorem ak2 (w:World):Calls Tryz.prog 158 #[M none 0 0,H J 0,H J 0] w fun e w'=> e=.returned (.tuple #[])∧w=w':=by
 go_enter Tryz.func158,Tryz.ntmps158
 go_wp2
 go_loopw [6] (fun i wr=> i=H J 1∧w=wr) (fun _ _=> 0)
 case atStart=> exact ⟨rfl,rfl⟩
 case round=>
  obtain ⟨rfl,rfl⟩:=hrel;go_wp2
  go_end0
  exact ⟨rfl,rfl⟩
theorem amp (w:World):Calls Tryz.prog 156 #[M none 0 0,H J 0,H J 0,H J 0] w fun e w'=> e=.returned (.tuple #[])∧w=w':=by
 go_enter Tryz.func156,Tryz.ntmps156
 go_wp2
 go_loopw [1,2,3,8,9] (fun a b c d e wr=> a=H J 0∧b=H J 0∧c=H J 0∧d=F true∧e=F true∧w=wr) (fun _ _ _ _ _ _=> 0)
 case atStart=> exact ⟨rfl,rfl,rfl,rfl,rfl,rfl⟩
 case round=>
  obtain ⟨rfl,rfl,rfl,rfl,rfl,rfl⟩:=hrel;go_wp2_with fail
  refine Calls.mono (ak2 _) ?_;rintro e w2 ⟨rfl,rfl⟩;go_wp2
  (try simp only [Exit.inBlock,Exit.then])
  refine bodyPost_ret (results_none rfl _ _ _) rfl ?_;exact ⟨rfl,rfl⟩
theorem an0 (w:World):Calls Tryz.prog 153 #[M none 0 0] w fun e w'=> e=.returned (.tuple #[])∧w=w':=by
 go_enter Tryz.func153,Tryz.ntmps153
 go_wp2_with fail
 refine Calls.mono (ali _) ?_;rintro e w2 ⟨rfl,rfl⟩;go_wp2_with fail
 refine Calls.mono (amp _) ?_;rintro e w2 ⟨rfl,rfl⟩;go_wp2
 go_end0
 exact ⟨rfl,rfl⟩
theorem aiv (w:World):Calls Tryz.prog 154 #[M none 0 0] w fun e w'=> e=.returned (M none 0 0)∧w=w':=by
 go_enter Tryz.func154,Tryz.ntmps154
 go_wp2;go_ret;exact ⟨rfl,rfl⟩
end Go.Proofs.YtjnlkjlbejelgaaGreat
