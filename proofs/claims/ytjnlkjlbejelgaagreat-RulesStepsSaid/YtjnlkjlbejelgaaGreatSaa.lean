/- Part of the proof. No condition: every lemma says its own. -/
import Derived.Test.YtjnlkjlbejelgaaGreatRSaj
namespace Go.Proofs.YtjnlkjlbejelgaaGreat
open Go.RowKit
open Go.Value renaming int→H,slice→M,bool→F
open Go.IntKind renaming i64→J
set_option maxRecDepth 100000
set_option maxHeartbeats 16000000
theorem aor {xs kZ:List Int} {k:Nat} (h:xs.take k=kZ.take k) (h1:k < xs.length) (h2:k < kZ.length) (h3:xs.getD k 0=kZ.getD k 0):xs.take (k + 1)=kZ.take (k + 1):=by
 rw [List.take_succ_eq_append_getElem h1,List.take_succ_eq_append_getElem h2,h];simp [h1,h2] at h3;rw [h3]
theorem anK (ao Xk:Option Addr) (c c':Nat) (xs kZ:List Int) (w:World) (hx:hr w ao xs) (hy:hr w Xk kZ) (hl:xs.length≤1000000000000) (m6:kZ.length≤1000000000000):
  Calls Tryz.prog 26 #[M ao xs.length c,M Xk kZ.length c'] w fun e w'=> e=.returned (F (decide (xs=kZ)))∧∃ n,w'=w.drewN n:=by
 obtain ⟨r,aO⟩:∃ r,r=decide (xs=kZ):=⟨_,rfl⟩;rw [←aO];have aD:=C aO;clear aO;have hM:=C hx;have oO:=C hy;clear hx hy
 by_cases hne:xs.length=kZ.length
 ·have C8:=C hne;rw [←hne];clear hne;go_enter Tryz.func26,Tryz.ntmps26
  go_wp2
  go_loopw [5] (fun i wr=> ∃ k:Nat,k≤xs.length∧i=H J k∧xs.take k=kZ.take k∧∃ ae,wr=w.drewN ae) (fun i _=> xs.length - (intOf i).toNat)
  case atStart=> exact ⟨0,Nat.zero_le _,rfl,rfl,0,rfl⟩
  case round=>
   obtain ⟨k,hk,rfl,ht,ae,rfl⟩:=hrel;have pR:=C ht;clear ht
   by_cases aQ:k < xs.length
   ·obtain ⟨b,off,rfl,DJ⟩:=hM.o (by omega);obtain ⟨b2,arj,rfl,DK⟩:=oO.o (by have:=C8.o;omega);have aiH:=DJ k aQ;have aiI:=DK k (by have:=C8.o;omega);obtain ⟨x,hx⟩:∃ x,x=xs.getD k 0:=⟨_,rfl⟩;obtain ⟨y,hy⟩:∃ y,y=kZ.getD k 0:=⟨_,rfl⟩;rw [←hx] at aiH;rw [←hy] at aiI;have Wi:=C hx;have Wo:=C hy;clear DJ DK hx hy
    by_cases Ar:x=y
    ·have ad:(x !=y)=false:=by simp [Ar]
     have agl:=C Ar;clear Ar;go_wp2
     go_quiet (fail)
     go_wp2;go_roundw
     case rel=> exact ⟨k + 1,by omega,by go_num,aor pR.o aQ (by have:=C8.o;omega) (by rw [←Wi.o,←Wo.o];exact agl.o),_,rfl⟩
     case measure=> simp [intOf];omega
    ·have ad:(x !=y)=true:=by simp [Ar]
     have hrf:r=false:=by
      rw [aD.o];simp only [decide_eq_false_iff_not];rintro rfl;exact Ar (by rw [Wi.o,Wo.o])
     have vE:=C hrf;clear Ar hrf;go_wp2
     go_quiet (fail)
     go_wp2;go_ret;exact ⟨by rw [vE.o];rfl,ae + nq,by rw [World.drewN_drewN]⟩
   ·have mh:r=true:=by
     rw [aD.o];have h1:=pR.o;rw [List.take_of_length_le (by omega),List.take_of_length_le (by have:=C8.o;omega)] at h1;simp [h1]
    have mq:=C mh;clear mh;go_wp2;go_ret;exact ⟨by rw [mq.o];rfl,_,rfl⟩
 ·have ad:((xs.length:Int) !=(kZ.length:Int))=true:=by simp;omega
  have hrf:r=false:=by
   rw [aD.o];simp only [decide_eq_false_iff_not];rintro rfl;exact hne rfl
  have vE:=C hrf;clear hne hrf;go_enter Tryz.func26,Tryz.ntmps26
  go_wp2;go_ret;exact ⟨by rw [vE.o];rfl,0,rfl⟩
theorem Ef {w:World} {g T:Nat} {cs:Array Value} {fz:Nat × Nat} (h:w.heap[g]? =some (.cells cs T fz)) (hc:∀ x∈cs.toList,∃ v:Int,x=H J v) (j:Nat) (c8:j < cs.size):∃ v:Int,w.cell? ⟨g,j,none⟩=some (H J v):=by
 obtain ⟨v,da⟩:=hc (cs[j]) (by simp);exact ⟨v,by unfold World.cell?;rw [h];simp [c8,da]⟩
theorem ai5 (set:List (Int × Int)) (v:Int):∀ x r,set=x::r→gU (((x.1,v))::r)=(gU set).set 1 (H J v):=by
 rintro x r rfl;simp [gU]
def ahh (w:World) (e:Ending) (w':World):Prop:=∃ (ae:MRe) (cp:Int) (ru:Bool),e=.returned (fV ae cp ru)∧ae.aK w'∧I [] w w'∧ae.ab.bm≤30000
def M8 (w3:World) (aG U:Nat) (mr:List Value) (db:World):Prop:=
 ∃ (y:MRe) (cp:Int) (ru:Bool) (eu:World),eu=db∧y.aK eu∧eu.heap[aG]? =some (.cells y.row.toArray 26 (0,0))∧eu.heap[U]? =some (.cells (mr ++ [H J cp,Value.bool ru]).toArray 28 (0,0))∧I [U] w3 eu∧y.ab.bm≤13000∧∀ b∈y.aw,b≠U∧b≠U + 1∧b≠aG
theorem CK {S:List Nat} {w3 ak W:World} {aG U:Nat} {mr:List Value} {cp:Int} {ru:Bool} {y y':MRe} (j:Nat) (v:Value) (lF:I S ak W) (fk:I [U] w3 ak) (Si:w3.heap.size≤aG) (sP:U≠aG)
  (fP:ak.heap[aG]? =some (.cells y.row.toArray 26 (0,0))) (gA:ak.heap[U]? =some (.cells (mr ++ [H J cp,Value.bool ru]).toArray 28 (0,0)))
  (hS:∀ x∈S,x≠aG∧x≠U∧w3.heap.size≤x)
  (aO:y'.row.toArray=y.row.toArray.setIfInBounds j v) (ds:∀ eu,I [aG] W eu→y'.aK eu) (ad:y'.ab.bm≤13000) (hs:∀ b∈y'.aw,b≠U∧b≠U + 1∧b≠aG):
  M8 w3 aG U mr (W.setCell ⟨aG,j,none⟩ v):=by
 have c3:I [aG] W (W.setCell ⟨aG,j,none⟩ v):=(I.refl [aG] W).setCell (p:=⟨aG,j,none⟩) (.inl (by simp)) _;refine ⟨y',cp,ru,_,rfl,ds _ c3,?_,c3.heap (lF.heap gA (fun h=> (hS U h).2.1 rfl)) (by simpa using sP),((fk.cn lF (fun x hx=> .inr (hS x hx).2.2)).cn c3 (by intro x hx;simp at hx;subst hx;exact .inr Si)),ad,hs⟩;rw [heap_setCell_same _ aG j _ _ v (lF.heap fP (fun h=> (hS aG h).1 rfl)),aO]
theorem abV {w3 ak W:World} {aG U:Nat} {mr:List Value} {cp cp':Int} {ru ru':Bool} {y:MRe} (j:Nat) (v:Value) (lF:I [] ak W) (fk:I [U] w3 ak) (sP:U≠aG)
  (fP:ak.heap[aG]? =some (.cells y.row.toArray 26 (0,0))) (gA:ak.heap[U]? =some (.cells (mr ++ [H J cp,Value.bool ru]).toArray 28 (0,0)))
  (aO:(mr ++ [H J cp',Value.bool ru']).toArray=(mr ++ [H J cp,Value.bool ru]).toArray.setIfInBounds j v) (ds:y.aK ak) (ad:y.ab.bm≤13000) (hs:∀ b∈y.aw,b≠U∧b≠U + 1∧b≠aG):
  M8 w3 aG U mr (W.setCell ⟨U,j,none⟩ v):=by
 have c3:I [U] W (W.setCell ⟨U,j,none⟩ v):=(I.refl [U] W).setCell (p:=⟨U,j,none⟩) (.inl (by simp)) _;refine ⟨y,cp',ru',_,rfl,(ds.ah lF).bG c3 (fun b h=> by simp;exact (hs b h).1),c3.heap (lF.h fP) (by simpa using fun h=> sP h.symm),?_,(fk.trans (lF.mono (by simp))).trans c3,ad,hs⟩;rw [heap_setCell_same _ U j _ _ v (lF.h gA),aO]
theorem ss {P:Nat→Prop} {dz fr al1 Iu sc kc:Nat} {set:List (Int × Int)} {kids:List MRe} {op mn mx mode n:Int} {neg:Bool} (h1:∀ b∈MRe.dN kids,P b) (h2:P dz) (h3:P fr):∀ b∈(MRe.node op (some ⟨dz,al1,none⟩) sc set (some ⟨fr,Iu,none⟩) kc kids mn mx mode n neg).aw,P b:=fun b ad=> by
 simp only [MRe.aw,List.mem_append] at ad
 rcases ad with ad | ad | ad
 ·unfold df at ad;split at ad
  ·cases ad
  ·simp at ad;subst ad;exact h2
 ·unfold df at ad;split at ad
  ·cases ad
  ·simp at ad;subst ad;exact h3
 ·exact h1 b ad
theorem Gh {k g o b:Nat} (h:b∈df k (some ⟨g,o,none⟩)):b=g:=by
 unfold df at h;split at h
 ·cases h
 ·simpa using h
theorem abD {P:Nat→Prop} {fr Iu k:Nat} {kids:List MRe} (h1:∀ b∈MRe.dN kids,P b) (h3:P fr):∀ b∈df k (some ⟨fr,Iu,none⟩) ++ MRe.dN kids,P b:=fun b ad=> by
 rcases List.mem_append.1 ad with ad | ad
 ·rw [Gh ad];exact h3
 ·exact h1 b ad
theorem alI {mr:List Value} {cp cp':Int} {ru:Bool} (h:mr.length=8):(mr ++ [H J cp',Value.bool ru]).toArray=(mr ++ [H J cp,Value.bool ru]).toArray.setIfInBounds 8 (H J cp'):=
 match mr,h with
 | [_,_,_,_,_,_,_,_],_=> rfl
theorem alJ {mr:List Value} {cp:Int} {ru ru':Bool} (h:mr.length=8):(mr ++ [H J cp,Value.bool ru']).toArray=(mr ++ [H J cp,Value.bool ru]).toArray.setIfInBounds 9 (F ru'):=
 match mr,h with
 | [_,_,_,_,_,_,_,_],_=> rfl
theorem adB {w3 ak W:World} {aG U dz fr ax au:Nat} {mr:List Value} {cp:Int} {ru:Bool} {op mn mx mode n:Int} {neg:Bool} {dv:Int × Int} {zk:List (Int × Int)} {kids:List MRe} {v:Int} (lF:I [] ak W) (fk:I [U] w3 ak)
  (fP:ak.heap[aG]? =some (.cells #[H J op,M (some ⟨dz,0,none⟩) (dv::zk).length ax,M (some ⟨fr,0,none⟩) kids.length au,H J mn,H J mx,H J mode,H J n,F neg] 26 (0,0))) (gA:ak.heap[U]? =some (.cells (mr ++ [H J cp,Value.bool ru]).toArray 28 (0,0)))
  (Lw:(∀ b∈MRe.dN kids,b≠U∧b≠U + 1∧b≠aG)∧(dz≠U∧dz≠U + 1∧dz≠aG)∧(fr≠U∧fr≠U + 1∧fr≠aG)) (hbk:1 + (dv::zk).length + Tree.ed (MRe.al kids)≤12000)
  (xN:w3.heap.size≤dz) (hs:cr ak 86 2 (some dz) (dv::zk).length ax (gU (dv::zk))) (hk:gT ak (some ⟨fr,0,none⟩) au kids) (hV:∀ b∈df kids.length (some ⟨fr,0,none⟩) ++ MRe.dN kids,b≠dz):
  M8 w3 aG U mr (W.setCell ⟨dz,1,none⟩ (H J v)):=by
 have c3:I [dz] W (W.setCell ⟨dz,1,none⟩ (H J v)):=(I.refl [dz] W).setCell (p:=⟨dz,1,none⟩) (.inl (by simp)) _;have h1:=(hs.ah lF (by simp)).GA 1 (H J v);rw [←ai5 (dv::zk) v dv zk rfl] at h1;have h2:=eK.we h1;refine ⟨.node op (some ⟨dz,0,none⟩) ax ((dv.1,v)::zk) (some ⟨fr,0,none⟩) au kids mn mx mode n neg,cp,ru,_,rfl,MRe.aK.hR h2 ((hk.ah lF).bG c3 (fun b ad=> by simp;exact hV b ad)),c3.heap (lF.h fP) (by simp;exact fun h=> Lw.2.1.2.2 h.symm),c3.heap (lF.h gA) (by simp;exact fun h=> Lw.2.1.1 h.symm),(fk.trans (lF.mono (by simp))).cn c3 (by intro x hx;simp at hx;subst hx;exact .inr xN),?_,ss (P:=fun b=> b≠U∧b≠U + 1∧b≠aG) Lw.1 Lw.2.1 Lw.2.2⟩;simp only [MRe.ab,Tree.bm,List.length_cons] at hbk ⊢;omega
theorem at_bulk:∀ (p:List Int) (t:Tree),((jW t p).getD .nil).bm≤t.bm:=by
 intro p
 induction p with
 | nil=> intro t;exact Nat.le_refl _
 | cons x r ih=>
  intro t
  cases t with
  | node op set kids mn mx mode n neg=>
   simp only [jW]
   split
   ·rename_i h
    have h:0≤x∧x < (kids.length:Int):=h;have h1:=ih ((kids.getD x.toNat .nil));refine Nat.le_trans h1 ?_;have hx:x.toNat < kids.length:=by omega
    rw [List.getD_eq_getElem?_getD,List.getElem?_eq_getElem hx,Option.getD_some]
    have:=Tree.Ff (List.getElem_mem hx)
    simp only [Tree.bm];omega
   ·simp only [Option.getD_none,Tree.nil,Tree.bm,Tree.ed,List.length_nil];omega
end Go.Proofs.YtjnlkjlbejelgaaGreat
