/- Part of the proof. No condition: every lemma says its own. -/
import Derived.Test.YtjnlkjlbejelgaaGreatRSPaf
namespace Go.Proofs.YtjnlkjlbejelgaaGreat
open Go.RowKit
open Go.Value renaming int→H,slice→M,bool→F
open Go.IntKind renaming i64→J
set_option maxRecDepth 100000
set_option maxHeartbeats 16000000
theorem aos {P:Program} {fv:Exit→Act→World→Prop} {hZ:Region.Mode} {S:World→Prop} {l r:List Oper} {i:Nat} {jt:Oper} {fuel:Nat} {hY:Array Bool} {a:Act} {w:World}
  (dB:l.drop i=jt::r) (hs:Region.noSelect l.toArray=true) (hf:Region.free hZ l.toArray hY i=true) (aO:(Region.ready hZ l.toArray hY).contains i=true)
  (zQ:∀ c a w,fv (.panic c) (a.put jt.dst undef) w→fv (.panic c) a w) (h9:Region.wanted jt (yielded l.toArray a.tmps)=false) (hS:S w)
  (h:wpAnyH P hZ l.toArray fv S fuel (hY.setIfInBounds i true) (a.put jt.dst undef) w):wpAnyH P hZ l.toArray fv S (fuel + 1) hY a w:=
 wpAnyH_take (by rw [List.getElem?_toArray,←List.head?_drop,dB];rfl) hs hf aO zQ (Or.inr ⟨h9,rfl⟩) hS h
theorem aif {P:Program} {fv:Exit→Act→World→Prop} {hZ:Region.Mode} {S:World→Prop} {l r:List Oper} {i:Nat} {jt:Oper} {fuel:Nat} {hY:Array Bool} {a:Act} {w:World}
  (dB:l.drop i=jt::r) (aO:Region.ready hZ l.toArray hY=[i]) (h9:Region.wanted jt (yielded l.toArray a.tmps)=true)
  (h:∀ k9:Act→World→Prop,Shut (∀ a w,S w→(S w→wpAnyH P hZ l.toArray fv S fuel (hY.setIfInBounds i true) a w)→k9 a w)→Oper.wp P jt a w k9 fv):
  wpAnyH P hZ l.toArray fv S (fuel + 1) hY a w:=
 wpAnyH_ready aO (by simp) (AllReadyH.cons (by rw [List.getElem?_toArray,←List.head?_drop,dB];rfl) (fun ai af=> by rw [if_pos h9];exact h ai af) AllReadyH.nil)
theorem aih {P:Program} {fv:Exit→Act→World→Prop} {hZ:Region.Mode} {S:World→Prop} {l r L8:List Oper} {i j:Nat} {jt wg:Oper} {fuel:Nat} {hY:Array Bool} {a:Act} {w:World}
  (dB:l.drop i=jt::r) (KT:l.drop j=wg::L8) (aO:Region.ready hZ l.toArray hY=[i,j]) (h9:Region.wanted jt (yielded l.toArray a.tmps)=true) (i7:Region.wanted wg (yielded l.toArray a.tmps)=true)
  (h:∀ k9:Act→World→Prop,Shut (∀ a w,S w→(S w→wpAnyH P hZ l.toArray fv S fuel (hY.setIfInBounds i true) a w)→k9 a w)→Oper.wp P jt a w k9 fv)
  (oW:∀ k9:Act→World→Prop,Shut (∀ a w,S w→(S w→wpAnyH P hZ l.toArray fv S fuel (hY.setIfInBounds j true) a w)→k9 a w)→Oper.wp P wg a w k9 fv):
  wpAnyH P hZ l.toArray fv S (fuel + 1) hY a w:=
 wpAnyH_ready aO (by simp) (AllReadyH.cons (by rw [List.getElem?_toArray,←List.head?_drop,dB];rfl) (fun ai af=> by rw [if_pos h9];exact h ai af) (AllReadyH.cons (by rw [List.getElem?_toArray,←List.head?_drop,KT];rfl) (fun ai af=> by rw [if_pos i7];exact oW ai af) AllReadyH.nil))
theorem RC {P:Program} {fv:Exit→Act→World→Prop} {hZ:Region.Mode} {S:World→Prop} {l r:List Oper} {i:Nat} {jt:Oper} {fuel:Nat} {hY:Array Bool} {a:Act} {w:World}
  (dB:l.drop i=jt::r) (aO:Region.ready hZ l.toArray hY=[i]) (h9:Region.wanted jt (yielded l.toArray a.tmps)=false) (hS:S w)
  (h:wpAnyH P hZ l.toArray fv S fuel (hY.setIfInBounds i true) (a.put jt.dst undef) w):
  wpAnyH P hZ l.toArray fv S (fuel + 1) hY a w:=
 wpAnyH_ready aO (by simp) (AllReadyH.cons (by rw [List.getElem?_toArray,←List.head?_drop,dB];rfl) (fun ai af=> by rw [if_neg (by rw [h9];simp)];exact af _ _ hS (fun _=> h)) AllReadyH.nil)
theorem ag {P:Program} {fv:Exit→Act→World→Prop} {hZ:Region.Mode} {S:World→Prop} {l r:List Oper} (i:Nat) {jt:Oper} {v:Value} {fuel:Nat} {hY LV:Array Bool} {a dZ:Act} {w:World}
  (h:wpAnyH P hZ l.toArray fv S fuel LV dZ w) (dB:l.drop i=jt::r:=by rfl) (hs:Region.noSelect l.toArray=true:=by kernel_rfl) (hf:Region.free hZ l.toArray hY i=true:=by kernel_rfl) (aO:(Region.ready hZ l.toArray hY).contains i=true:=by kernel_rfl)
  (h9:Region.wanted jt (yielded l.toArray a.tmps)=true:=by rfl) (hS:S w:=by assumption)
  (hy:∀ w,S w→(execOp a.eval jt).run P w=.ok (.value v) w:=by ((intro w ajA;(try dsimp only at ajA);go_simp <;> with_reducible rfl);done))
  (zQ:∀ c a w,fv (.panic c) (a.put jt.dst v) w→fv (.panic c) a w:=by exact fun _ _ _ h=> h)
  (hl:hY.setIfInBounds i true=LV:=by first | (simp only [List.setIfInBounds_toArray,List.set_cons_zero,List.set_cons_succ];exact rfl) | exact rfl) (b8:a.put jt.dst v=dZ:=by first | (simp only [Act.put,List.setIfInBounds_toArray,List.set_cons_zero,List.set_cons_succ];exact rfl) | exact rfl):wpAnyH P hZ l.toArray fv S (fuel + 1) hY a w:=
 aot dB hs hf aO zQ h9 hS hy (by rw [hl,b8];exact h)
theorem c9 {P:Program} {fv:Exit→Act→World→Prop} {hZ:Region.Mode} {S:World→Prop} {l r:List Oper} (i:Nat) {jt:Oper} {fuel:Nat} {hY LV:Array Bool} {a dZ:Act} {w:World}
  (h:wpAnyH P hZ l.toArray fv S fuel LV dZ w) (dB:l.drop i=jt::r:=by rfl) (hs:Region.noSelect l.toArray=true:=by kernel_rfl) (hf:Region.free hZ l.toArray hY i=true:=by kernel_rfl) (aO:(Region.ready hZ l.toArray hY).contains i=true:=by kernel_rfl)
  (h9:Region.wanted jt (yielded l.toArray a.tmps)=false:=by rfl) (hS:S w:=by assumption)
  (zQ:∀ c a w,fv (.panic c) (a.put jt.dst undef) w→fv (.panic c) a w:=by exact fun _ _ _ h=> h)
  (hl:hY.setIfInBounds i true=LV:=by first | (simp only [List.setIfInBounds_toArray,List.set_cons_zero,List.set_cons_succ];exact rfl) | exact rfl) (b8:a.put jt.dst undef=dZ:=by first | (simp only [Act.put,List.setIfInBounds_toArray,List.set_cons_zero,List.set_cons_succ];exact rfl) | exact rfl):wpAnyH P hZ l.toArray fv S (fuel + 1) hY a w:=
 aos dB hs hf aO zQ h9 hS (by rw [hl,b8];exact h)
theorem bh {P:Program} {fv:Exit→Act→World→Prop} {hZ:Region.Mode} {S:World→Prop} {l r:List Oper} (i:Nat) {jt:Oper} {fuel:Nat} {hY:Array Bool} {a:Act} {w:World}
  (h:∀ k9:Act→World→Prop,Shut (∀ a w,S w→(S w→wpAnyH P hZ l.toArray fv S fuel (hY.setIfInBounds i true) a w)→k9 a w)→Oper.wp P jt a w k9 fv)
  (dB:l.drop i=jt::r:=by rfl) (aO:Region.ready hZ l.toArray hY=[i]:=by kernel_rfl) (h9:Region.wanted jt (yielded l.toArray a.tmps)=true:=by rfl):
  wpAnyH P hZ l.toArray fv S (fuel + 1) hY a w:=aif dB aO h9 h
theorem kX {P:Program} {fv:Exit→Act→World→Prop} {hZ:Region.Mode} {S:World→Prop} {l r L8:List Oper} (i j:Nat) {jt wg:Oper} {fuel:Nat} {hY:Array Bool} {a:Act} {w:World}
  (h:∀ k9:Act→World→Prop,Shut (∀ a w,S w→(S w→wpAnyH P hZ l.toArray fv S fuel (hY.setIfInBounds i true) a w)→k9 a w)→Oper.wp P jt a w k9 fv)
  (oW:∀ k9:Act→World→Prop,Shut (∀ a w,S w→(S w→wpAnyH P hZ l.toArray fv S fuel (hY.setIfInBounds j true) a w)→k9 a w)→Oper.wp P wg a w k9 fv)
  (dB:l.drop i=jt::r:=by rfl) (KT:l.drop j=wg::L8:=by rfl) (aO:Region.ready hZ l.toArray hY=[i,j]:=by kernel_rfl) (h9:Region.wanted jt (yielded l.toArray a.tmps)=true:=by rfl) (i7:Region.wanted wg (yielded l.toArray a.tmps)=true:=by rfl):
  wpAnyH P hZ l.toArray fv S (fuel + 1) hY a w:=aih dB KT aO h9 i7 h oW
theorem dR {P:Program} {fv:Exit→Act→World→Prop} {hZ:Region.Mode} {S:World→Prop} {s7:Array Oper} {fuel:Nat} {hY:Array Bool} {a:Act} {w:World} (h:fv .normal a w) (aO:Region.ready hZ s7 hY=[]:=by kernel_rfl):wpAnyH P hZ s7 fv S fuel hY a w:=wpAnyH_done aO h _
theorem rg {P:Program} {id:Nat} {s7:Array Oper} {fv:Exit→Act→World→Prop} {a:Act} {w:World} {S:World→Prop} (hk:∀ W,I [] w W→S W) (h:sF (∀ W,I [] w W→S W)→S w.drew→wpAnyH P .any s7 fv S s7.size (Array.replicate s7.size false) a w.drew) (hm:P.follows .mixedOrders=true:=by kernel_rfl):(Code.region id s7 true).wp P fv a w:=
 wp_region_held_drew hm (hk _ (I.refl [] w).drew) (h (C hk))
def HI:List Tree→Bool
 | []=> false
 | k::_=> fA k
def xk:Tree→Nat
 | .node op _ kids _ _ mode _ _=>
  if op=6 then 1 else if op=10 then 2 else if op=7∨op=8 then 4 else if op=9 then 8 else if op=11 then 16 else if op=5 then 64
  else if op=4 then (if mode=2 then 8 else 0) ||| (if HI kids=true then 32 else 0) else 0
mutual
def qe:Tree→Nat
 | .node op set kids mn mx mode n neg=> xk (.node op set kids mn mx mode n neg) ||| og kids
def og:List Tree→Nat
 | []=> 0
 | k::ks=> qe k ||| og ks
end
theorem ad4 (t:Tree):xk t < 128:=by
 cases t
 simp only [xk]
 repeat' split
 all_goals decide
theorem Gq {a b:Nat} (b8:a < 128) (ad:b < 128):a ||| b < 128:=Nat.or_lt_two_pow (n:=7) b8 ad
theorem aoQ (l:List Tree) (h:∀ k∈l,qe k < 128):og l < 128:=by
 induction l with
 | nil=> simp [og]
 | cons x xs ih=>
  rw [og];exact Gq (h x (by simp)) (ih fun k hk=> h k (by simp [hk]))
theorem Ml (t:Tree):qe t < 128:=by
 refine Tree.nq (P:=fun t=> qe t < 128) (fun op set kids mn mx mode n neg ih=> ?_) t;rw [qe];exact Gq (ad4 _) (aoQ kids ih)
theorem Rz {a b:Nat} (b8:a < 128) (ad:b < 128):bits .or .i64 (a:Int) (b:Int)=((a ||| b:Nat):Int):=by
 have h:=Gq b8 ad;have e:(BitVec.ofInt 64 (a:Int) ||| BitVec.ofInt 64 (b:Int)).toNat=a ||| b:=by
  rw [BitVec.toNat_or,BitVec.ofInt_natCast,BitVec.ofInt_natCast,BitVec.toNat_ofNat,BitVec.toNat_ofNat,Nat.mod_eq_of_lt (by omega),Nat.mod_eq_of_lt (by omega)]
 show IntKind.i64.wrap ((BitVec.ofInt 64 (a:Int) ||| BitVec.ofInt 64 (b:Int)).toNat:Int)=_
 rw [e,IntWalk.i64_in _ (by omega)]
theorem aoR (b o:Nat) (m:MRe) (w:World) (h1:fb w b o m) (aj:m.aK w):
  Calls Tryz.prog 70 #[.pointer (some ⟨b,o,none⟩)] w fun e w'=> e=.returned (H J (xk m.ab))∧I [] w w':=by
 obtain ⟨op,sa,sc,set,ka,kc,kids,mn,mx,mode,n,neg⟩:=m;have hT:xk (MRe.ab (.node op sa sc set ka kc kids mn mx mode n neg))=xk (.node op set (MRe.al kids) mn mx mode n neg):=rfl;rw [hT];have a0:=h1.node.ar;have a2:=h1.node.c2;have a5:=h1.node.ay;have b6:=C aj.kids;clear hT h1 aj
 by_cases eY:op=6∨op=10∨op=7∨op=8∨op=9∨op=11∨op=5
 ·rcases eY with rfl | rfl | rfl | rfl | rfl | rfl | rfl
  all_goals
   go_enter Tryz.func70,Tryz.ntmps70
   go_wp2;go_ret;exact ⟨rfl,I.refl _ _⟩
 ·simp only [not_or] at eY;obtain ⟨fm,OT,jg,o8,bp,acb,cu⟩:=eY
  by_cases h4:op=4
  ·subst h4;have aY:xk (.node 4 set (MRe.al kids) mn mx mode n neg)=(if mode=2 then 8 else 0) ||| (if HI (MRe.al kids)=true then 32 else 0):=rfl;rw [aY];clear aY
   cases kids with
   | nil=>
    have hh:HI (MRe.al [])=false:=rfl;rw [hh]
    by_cases hm:mode=2
    ·subst hm;go_enter Tryz.func70,Tryz.ntmps70
     go_wp2;go_ret;exact ⟨rfl,I.refl _ _⟩
    ·rw [if_neg hm];go_enter Tryz.func70,Tryz.ntmps70
     go_wp2;go_ret;exact ⟨rfl,I.refl _ _⟩
   | cons dq ks=>
    have hh:HI (MRe.al (dq::ks))=fA dq.ab:=rfl;rw [hh];obtain ⟨iw,off,rfl,ad,hx⟩:=b6.o.ch.dy (by simp);have eD:=hx 0 (by simp);have dP:=C (fun W (h:I [] w W)=> Ej dq W ((b6.o.all dq (by simp)).ah h));obtain ⟨ae,hq⟩:∃ ae,ae=fA dq.ab:=⟨_,rfl⟩;rw [←hq] at dP ⊢;rw [Nat.zero_mul,Nat.add_zero,List.getElem_cons_zero] at eD;obtain ⟨op1,aM,aN,set1,aS,kc1,aq,mn1,aI,mode1,n1,aL⟩:=dq;have g:=eD.node;obtain ⟨bK,d1,d2,bL,bO,bT,bU,bV⟩:=id g;simp only [MRe.val] at dP;obtain ⟨l,hl⟩:∃ l,l=((.node op1 aM aN set1 aS kc1 aq mn1 aI mode1 n1 aL)::ks:List MRe).length:=⟨_,rfl⟩;have Ag:0 < l:=by rw [hl];simp
    have aqI:(0:Int) < (l:Int):=by omega
    rw [←hl] at a2;clear g eD hx hh hq hl
    by_cases hm:mode=2
    ·subst hm;rw [if_pos rfl];go_enter Tryz.func70,Tryz.ntmps70
     go_wp2_with fail
     refine Calls.mono (dP.o _ (by first | exact I.refl _ _ | exact (I.refl _ _).drew)) ?_;rintro e w2 ⟨rfl,hk⟩;have bQ:=C hk;clear hk
     cases ae
     all_goals
      go_wp2;go_ret;exact ⟨rfl,bQ.o⟩
    ·rw [if_neg hm];go_enter Tryz.func70,Tryz.ntmps70
     go_wp2_with fail
     refine Calls.mono (dP.o _ (by first | exact I.refl _ _ | exact (I.refl _ _).drew)) ?_;rintro e w2 ⟨rfl,hk⟩;have bQ:=C hk;clear hk
     cases ae
     all_goals
      go_wp2;go_ret;exact ⟨rfl,bQ.o⟩
  ·have aY:xk (.node op set (MRe.al kids) mn mx mode n neg)=0:=by rw [xk,if_neg fm,if_neg OT,if_neg (by simp [jg,o8]),if_neg bp,if_neg acb,if_neg cu,if_neg h4]
   rw [aY];go_enter Tryz.func70,Tryz.ntmps70
   go_wp2;go_ret;exact ⟨rfl,I.refl _ _⟩
theorem fb.bG {S:List Nat} {w w':World} {b o:Nat} {m:MRe} (h:fb w b o m) (k:I S w w') (ad:b ∉ S):fb w' b o m:=fun j c8=> k.cell (h j c8) ad
def pU (w:World) (u:Nat) (x:Nat):Prop:=w.heap[u]? =some (.cells #[H J x] 3 (0,0))
theorem pU.cell {w:World} {u x:Nat} (h:pU w u x):w.cell? ⟨u,0,none⟩=some (H J x):=by unfold pU at h;simp [World.cell?,h]
theorem pU.fz {w:World} {u x:Nat} (h:pU w u x):w.frozen? ⟨u,0,none⟩=false:=by unfold pU at h;simp [World.frozen?,h]
theorem pU.ah {S:List Nat} {w w':World} {u x:Nat} (h:pU w u x) (k:I S w w') (cy:u ∉ S):pU w' u x:=k.heap h cy
theorem pU.set {w:World} {u x:Nat} (h:pU w u x) (y:Nat):pU (w.setCell ⟨u,0,none⟩ (H J y)) u y:=heap_setCell_same _ u 0 _ _ _ h
theorem aoP (m:MRe):∀ (b o c u x:Nat) (w:World),fb w b o m→m.aK w→w.cell? ⟨c,0,none⟩=some (.func (Fn.func 69) #[] #[.pointer (some ⟨u,0,none⟩),.pointer (some ⟨c,0,none⟩)])→pU w u x→x < 128→u≠b→u≠c→u ∉ m.aw→
  Calls Tryz.prog 69 #[.pointer (some ⟨b,o,none⟩),.pointer (some ⟨u,0,none⟩),.pointer (some ⟨c,0,none⟩)] w fun e w'=> e=.returned (.tuple #[])∧I [u] w w'∧pU w' u (x ||| qe m.ab):=by
 induction m using MRe.nq with
 | h op sa sc set ka kc kids mn mx mode n neg ih=>
  intro b o c u x w h1 aj hc cy TV akL akM aaY;have a2:=h1.node.c2;have hcap:=aj.ch.cap;have fc:=aj.ch.le;unfold maxLen at hcap;obtain ⟨v,da⟩:∃ v,v=xk (MRe.ab (.node op sa sc set ka kc kids mn mx mode n neg)):=⟨_,rfl⟩;have TP:v < 128:=by rw [da];exact ad4 _
  have lM:=C (fun (W:World) (h:I [] w W)=> aoR b o (.node op sa sc set ka kc kids mn mx mode n neg) W (h1.ah h) (aj.ah h));have hT:qe (MRe.node op sa sc set ka kc kids mn mx mode n neg).ab=v ||| og (MRe.al kids):=by rw [da];rfl
  rw [hT];rw [←da] at lM;have jX:=Rz TV TP;have iL:=C aj.kids;have qB:u ∉ df kids.length ka ++ MRe.dN kids:=fun h=> aaY (by simp only [MRe.aw,List.mem_append] at h ⊢;exact .inr h);have kS:=C qB;have ff:=C ih;have en:=C da;have zY:=cy.cell;have ajQ:=cy.fz;have EO:=C cy;have QJ:=C akL;have MR:=C akM;have hM:=C TV;have Jx:=C TP;clear ih h1 aj hT da cy TV TP aaY qB;go_enter Tryz.func69,Tryz.ntmps69
  go_upto_region 0 with fail
  go_cut [] (fun db=> ∃ W,W=db∧I [u] w W∧pU W u (x ||| v))
  case first=>
   refine wp_region_held_drew (S:=fun _=> True) (by kernel_rfl) trivial (fun aF=> ?_);refine ag 1 ?_;refine kX 0 2 (fun ai af=> ?_) fun ai af=> ?_
   ·go_simp;refine af.out _ _ (trivial) (fun aF=> ?_);clear af ai;try go_frame
    refine bh 2 fun ai af=> ?_;go_simp
    go_at_call 70
    refine Calls.mono (lM.o _ ((I.refl [] w).drew)) ?_;rintro e w2 ⟨rfl,hk⟩;have aU:=C (((I.refl [] w).drew).trans hk);have pT:=C (EO.o.ah aU.o (by simp));have bn:=pT.o.cell;have cP:=pT.o.fz;clear hk;refine af.out _ _ (trivial) (fun aF=> ?_);clear af ai;try go_frame
    refine ag 3 ?_;refine bh 4 fun ai af=> ?_;go_simp;refine af.out _ _ (trivial) (fun aF=> ?_);clear af ai;try go_frame
    refine dR ?_;go_wp2;go_meet;exact ⟨_,rfl,(aU.o.mono (by simp)).trans ((I.refl [u] w2).setCell (p:=⟨u,0,none⟩) (.inl (by simp)) _),pT.o.set _⟩
   ·go_simp
    go_at_call 70
    refine Calls.mono (lM.o _ ((I.refl [] w).drew)) ?_;rintro e w2 ⟨rfl,hk⟩;have aU:=C (((I.refl [] w).drew).trans hk);have pT:=C (EO.o.ah aU.o (by simp));have bn:=pT.o.cell;have cP:=pT.o.fz;clear hk;refine af.out _ _ (trivial) (fun aF=> ?_);clear af ai;try go_frame
    refine bh 0 fun ai af=> ?_;go_simp;refine af.out _ _ (trivial) (fun aF=> ?_);clear af ai;try go_frame
    refine ag 3 ?_;refine bh 4 fun ai af=> ?_;go_simp;refine af.out _ _ (trivial) (fun aF=> ?_);clear af ai;try go_frame
    refine dR ?_;go_wp2;go_meet;exact ⟨_,rfl,(aU.o.mono (by simp)).trans ((I.refl [u] w2).setCell (p:=⟨u,0,none⟩) (.inl (by simp)) _),pT.o.set _⟩
  case rest=>
   obtain ⟨aE,rfl,mj,acd⟩:=hcut;have j4:=C mj;have YZ:=mj.cell hc (by simp only [List.mem_cons,List.not_mem_nil,or_false];exact fun h=> MR.o h.symm);have Nf:=mj.cell a2 (by simp only [List.mem_cons,List.not_mem_nil,or_false];exact fun h=> QJ.o h.symm);have agH:=C acd;clear mj acd zY ajQ hc a2 EO lM jX;go_wp2
   go_loopw [14] (fun i wr=> ∃ k:Nat,k≤kids.length∧i=H J k∧∃ y:Nat,y < 128∧pU wr u y∧y ||| og ((MRe.al kids).drop k)=x ||| (v ||| og (MRe.al kids))∧I [u] w wr∧I [u] aE wr) (fun i _=> kids.length - (intOf i).toNat)
   case atStart=> exact ⟨0,Nat.zero_le _,rfl,x ||| v,Gq hM.o Jx.o,agH.o,by rw [List.drop_zero,Nat.or_assoc],j4.o,I.refl _ _⟩
   case round=>
    obtain ⟨k,hk,rfl,y,hy,hn,hl,jI,cq⟩:=hrel;have BL:=C hl;have jF:=C jI;have aH:=C cq;have oO:=C hy;have dP:=C hn
    by_cases aQ:k < kids.length
    ·have lP:=iL.o.bG jI (by intro ae hq;simp only [List.mem_cons,List.not_mem_nil,or_false];intro h;subst h;exact kS.o hq);obtain ⟨iw,off,rfl,ad,hx⟩:=lP.ch.dy (by omega);have dI:=cq.cell YZ (by simp only [List.mem_cons,List.not_mem_nil,or_false];exact fun h=> MR.o h.symm);have ea:=cq.cell Nf (by simp only [List.mem_cons,List.not_mem_nil,or_false];exact fun h=> QJ.o h.symm);have km:=lP.all kids[k] (List.getElem_mem aQ);have aaX:u≠iw:=fun h=> kS.o (List.mem_append_left _ (by unfold df;rw [if_neg (by omega)];simp [h]));have aaZ:u ∉ kids[k].aw:=fun h=> kS.o (List.mem_append_right _ (MRe.mQ (List.getElem_mem aQ) h));have iU:=C (fun (W:World) (h:I [] wr W)=> ff.o kids[k] (List.getElem_mem aQ) iw (off + k * 8) c u y W ((hx k aQ).ah h) (km.ah h) (h.c dI) (dP.o.ah h (by simp)) oO.o aaX MR.o aaZ);have dB:og ((MRe.al kids).drop k)=qe kids[k].ab ||| og ((MRe.al kids).drop (k + 1)):=by rw [wt kids k aQ,og]
     have gi:=C (show (y ||| qe kids[k].ab) ||| og ((MRe.al kids).drop (k + 1))=x ||| (v ||| og (MRe.al kids)) by rw [←hl,dB,Nat.or_assoc]);have QL:=C (Ml kids[k].ab);clear dB km hx hl cq jI ff YZ Nf hn hy lP aaX aaZ;go_wp2;refine rg (S:=fun w'=> w'.cell? ⟨c,0,none⟩=some (.func (Fn.func 69) #[] #[.pointer (some ⟨u,0,none⟩),.pointer (some ⟨c,0,none⟩)])∧w'.cell? ⟨b,o + 2,none⟩=some (M (some ⟨iw,off,none⟩) kids.length kc)) (fun _ k=> ⟨k.c dI,k.c ea⟩) fun bM aF=> ?_;refine ag 0 ?_;refine ag 1 ?_;refine ag 2 ?_;refine ag 3 ?_;refine ag 4 ?_;refine ag 5 ?_;refine ag 6 ?_;refine bh 7 fun ai af=> ?_;go_simp
     go_at_call 69
     refine Calls.mono (iU.o _ ((I.refl [] wr).drew)) ?_;rintro e w3 ⟨rfl,aP,Bq⟩;have aR:=C ((((I.refl [] wr).drew).mono (S':=[u]) (by simp)).trans aP);have He:=C Bq;clear aP Bq iU;refine af.out _ _ (⟨aR.o.cell dI (by simp only [List.mem_cons,List.not_mem_nil,or_false];exact fun h=> MR.o h.symm),aR.o.cell ea (by simp only [List.mem_cons,List.not_mem_nil,or_false];exact fun h=> QJ.o h.symm)⟩) (fun aF=> ?_);clear af ai;try go_frame
     refine dR ?_;go_wp2;go_roundw
     case rel=> exact ⟨k + 1,by omega,by go_num,y ||| qe kids[k].ab,Gq oO.o QL.o,He.o,gi.o,jF.o.trans aR.o,aH.o.trans aR.o⟩
     case measure=> simp [intOf];omega
    ·obtain rfl:k=kids.length:=by omega
     have h0:og ((MRe.al kids).drop kids.length)=0:=by rw [List.drop_of_length_le (by rw [MRe.ee];omega)];rfl
     have AV:=C (show x ||| (v ||| og (MRe.al kids))=y by rw [←hl,h0,Nat.or_zero]);clear hl cq jI hn hy h0;go_wp2
     go_end0
     exact ⟨rfl,jF.o,by rw [AV.o];exact dP.o⟩
theorem aoS (m:MRe) (w:World) (aj:m.aK w):
  Calls Tryz.prog 34 #[m.val] w fun e w'=> e=.returned (H J (qe m.ab))∧I [] w w':=by
 obtain ⟨U,gA⟩:∃ U,U=w.heap.size:=⟨_,rfl⟩;have aQ:=aj.fi;have jd:=C (fun (W:World) (h1:fb W U 0 m) (h2:m.aK W) (h3:W.cell? ⟨U + 1 + 1,0,none⟩=some (.func (Fn.func 69) #[] #[.pointer (some ⟨U + 1,0,none⟩),.pointer (some ⟨U + 1 + 1,0,none⟩)])) (h4:pU W (U + 1) 0)=> aoP m U 0 (U + 1 + 1) (U + 1) 0 W h1 h2 h3 h4 (by omega) (by omega) (by omega) (fun h=> by have:=aQ _ h;omega));have iL:=C aj;obtain ⟨ju,gL⟩:∃ r,r=m:=⟨_,rfl⟩;obtain ⟨op1,aM,aN,set1,aS,kc1,aq,mn1,aI,mode1,n1,aL⟩:=m;simp only [MRe.val];have m8:∀ (fn:Fn) (first cap:Array Value) (w:World),(Instr.makeFunc fn first cap).run Tryz.prog w=.ok (.func fn first cap) w:=fun _ _ _ _=> rfl;rw [←gL] at jd iL ⊢;have ou:ju.row=[H J op1,M aM set1.length aN,M aS aq.length kc1,H J mn1,H J aI,H J mode1,H J n1,F aL]:=by rw [gL];rfl
 have gN:=C ou;have jE:=C gA;clear gL ou aj aQ gA;go_enter Tryz.func34,Tryz.ntmps34
 go_wp2_with fail
 rw [←jE.o];refine Calls.mono (jd.o _ ?_ ?_ ?_ ?_) ?_
 ·rw [jE.o];exact fb.ah (fb.box gN.o.symm) (I.a2 _ _ _)
 ·exact iL.o.ah (I.a3 w _ _ _)
 ·have hc:=Bd ((w.alloc (bf op1 aM set1 aN aS aq kc1 mn1 aI mode1 n1 aL)).alloc (.cells #[H J 0] 3)) #[.func (Fn.func 69) #[] #[.pointer (some ⟨U + 1,0,none⟩),.pointer (some ⟨U + 1 + 1,0,none⟩)]] 93 0;have hs:((w.alloc (bf op1 aM set1 aN aS aq kc1 mn1 aI mode1 n1 aL)).alloc (.cells #[H J 0] 3)).heap.size=U + 1 + 1:=by simp [jE.o]
  rw [hs] at hc;exact hc
 ·exact (I.a1 _ _).heap (by rw [jE.o];exact heap_alloc2_new w _ _) (by simp)
 rintro e w2 ⟨rfl,hk,hn⟩;rw [Nat.zero_or] at hn;have b6:=C (((I.a3 w _ _ _).mono (S':=[U + 1]) (by simp)).trans hk);have hc:=hn.cell;clear hk;have dP:=C hn;clear hn;go_wp2;go_ret;exact ⟨rfl,b6.o.mono (by intro x hx;simp at hx;subst hx;exact .inr (by have:=jE.o;omega))⟩
theorem ahN:∀ u:Fin 128,(bits .andNot .i64 (u.val:Int) 32==0)=(u.val==0 || u.val==32):=by decide
def s8 (t:Tree):Bool:=qe t==0 || qe t==32
theorem ahO (t:Tree):decide (bits .andNot .i64 (qe t:Int) 32=0)=s8 t:=by
 have h:=ahN ⟨qe t,Ml t⟩;simp only at h;rw [s8,←h]
 rfl
theorem acM (m:MRe) (w:World) (aj:m.aK w):
  Calls Tryz.prog 131 #[m.val] w fun e w'=> e=.returned (F (s8 m.ab))∧I [] w w':=by
 have lM:=C (fun (W:World) (h:I [] w W)=> aoS m W (aj.ah h));have gw:=C (ahO m.ab);obtain ⟨u,cy⟩:∃ u,u=qe m.ab:=⟨_,rfl⟩;obtain ⟨p,hp⟩:∃ p,p=s8 m.ab:=⟨_,rfl⟩;rw [←cy] at lM gw;rw [←hp] at gw ⊢;clear cy hp aj;obtain ⟨op,sa,sc,set,ka,kc,kids,mn,mx,mode,n,neg⟩:=m;simp only [MRe.val] at lM ⊢;go_enter Tryz.func131,Tryz.ntmps131
 go_wp2_with fail
 refine Calls.mono (lM.o _ (I.a1 w _)) ?_;rintro e w2 ⟨rfl,hk⟩;have b6:=C ((I.a1 w _).trans hk);clear hk;go_wp2;go_ret;exact ⟨by rw [←gw.o];rfl,b6.o⟩
def rj:Tree→Option Tree
 | .node op _ kids _ _ _ _ neg=>
  if op=7∧neg=false∧(kids.getD 0 .nil).op=2∧s8 ((kids.getD 0 .nil).kids.getD ((kids.getD 0 .nil).kids.length - 1) .nil)=true∧fA ((kids.getD 0 .nil).kids.getD ((kids.getD 0 .nil).kids.length - 1) .nil)=true
  then some (gE 7 [im 2 ((kids.getD 0 .nil).kids.take ((kids.getD 0 .nil).kids.length - 1))]) else none
theorem O7 {op set kids mn mx mode n neg} (h:op=7→neg=false→(kids.getD 0 Tree.nil).op=2→s8 ((kids.getD 0 .nil).kids.getD ((kids.getD 0 .nil).kids.length - 1) .nil)=true→fA ((kids.getD 0 .nil).kids.getD ((kids.getD 0 .nil).kids.length - 1) .nil)=true→False):rj (.node op set kids mn mx mode n neg)=none:=by
 rw [rj,if_neg];rintro ⟨h1,h2,h3,h4,h5⟩;exact h h1 h2 h3 h4 h5
theorem anq {w aE W:World} {U T:Nat} {op mn mx:Int} {s:MRe} {src:List Nat} (gA:U=w.heap.size) (mj:I [] w aE) (lF:I [] aE W) (aW:aE.heap[U + 1]? =some (.cells #[H J 0,M none 0 0,M none 0 0,H J 0,H J 0,H J 0,H J 0,F false] T (0,0))) (cZ:U + 2≤aE.heap.size)
  (UW:s.aK W) (sb:∀ b∈s.aw,b∈src) (aQ:∀ b∈src,b < w.heap.size) (cs:Array Value) (pt:cs.toList=s.row):
  (hE (W.alloc (.cells cs T)) (U + 1) (H J op) (M none 0 0) (M (some ⟨W.heap.size,0,none⟩) 1 1) (H J mn) (H J mx) (H J 0) (H J 0) (F false)).heap[U + 1]? =some (.cells #[H J op,M none 0 0,M (some ⟨W.heap.size,0,none⟩) 1 1,H J mn,H J mx,H J 0,H J 0,F false] T (0,0))∧
  MRe.aK (hE (W.alloc (.cells cs T)) (U + 1) (H J op) (M none 0 0) (M (some ⟨W.heap.size,0,none⟩) 1 1) (H J mn) (H J mx) (H J 0) (H J 0) (F false)) (.node op none 0 [] (some ⟨W.heap.size,0,none⟩) 1 [s] mn mx 0 0 false)∧
  I [] w (hE (W.alloc (.cells cs T)) (U + 1) (H J op) (M none 0 0) (M (some ⟨W.heap.size,0,none⟩) 1 1) (H J mn) (H J mx) (H J 0) (H J 0) (F false))∧
  du w.heap.size src (MRe.node op none 0 [] (some ⟨W.heap.size,0,none⟩) 1 [s] mn mx 0 0 false).aw:=by
 have LH:=(I.a1 W (.cells cs T)).heap (lF.h aW) (by simp);have cU:=jv (W.alloc (.cells cs T)) (U + 1) (H J op) (M none 0 0) (M (some ⟨W.heap.size,0,none⟩) 1 1) (H J mn) (H J mx) (H J 0) (H J 0) (F false);have gQ:=mj.size;have gn:=lF.size;refine ⟨rm LH _ _ _ _ _ _ _ _,.hR (eK.nil _) ⟨hH.kq (kids:=[s]) (cU.heap (heap_alloc_new W _) (by simp;omega)) (by rw [pt];simp [fX]) (by simp [maxLen]),?_⟩,((mj.trans lF).trans (I.a1 W _)).cn cU (by intro x hx;simp at hx;subst hx;exact .inr (by omega)),?_⟩
 ·intro x hx;simp only [List.mem_cons,List.not_mem_nil,or_false] at hx;subst hx;exact (UW.ah (I.a1 _ _)).bG cU fun b ad=> by have:=aQ b (sb b ad);simp;omega
 ·intro b ad;simp only [MRe.aw,MRe.dN,List.mem_append,List.not_mem_nil,or_false] at ad
  rcases ad with ad | ad | ad
  ·simp [df] at ad
  ·simp [df] at ad;subst ad;exact .inr (by omega)
  ·exact .inl (sb b ad)
theorem acK (m:MRe) (w:World) (aj:m.aK w) (aJ:m.ab.dE):
  Calls Tryz.prog 90 #[m.val] w (dc w m.aw (rj m.ab)):=by
 obtain ⟨bW,cQ⟩:∃ bW,bW=m:=⟨_,rfl⟩;have ZW:=cQ;obtain ⟨op,sa,sc,set,ka,kc,kids,mn,mx,mode,n,neg⟩:=m;have eC:=kB aJ;obtain ⟨U,aE,aB,c7,bI,ba,cZ,aH⟩:=rS w op sa sc set ka kc kids mn mx mode n neg;have HM:=C ZW;have b6:=C aj;have H9:bW.val=.agg #[H J op,M sa set.length sc,M ka kids.length kc,H J mn,H J mx,H J mode,H J n,F neg]:=by rw [cQ];rfl
 have hT:rj (MRe.ab (.node op sa sc set ka kc kids mn mx mode n neg))=rj (.node op set (MRe.al kids) mn mx mode n neg):=rfl;rw [hT];simp only [MRe.val];have hj:=C (I.refl [] aE);clear cQ ZW H9 hT
 by_cases h7:op=7
 ·subst h7;have lE:kids.length=1:=eC.hone (by simp);have yo:=C lE;have hln:(0:Int) < (kids.length:Int):=by omega
  have l7:0 < kids.length:=by omega
  clear lE
  cases neg with
  | true=>
   have aD:=C (O7 (op:=7) (set:=set) (kids:=MRe.al kids) (mn:=mn) (mx:=mx) (mode:=mode) (n:=n) (neg:=true) (fun _ h=> by cases h));obtain ⟨ar,c1,c2,an,av,ay,ax,az⟩:=bI.o.ez;go_enter Tryz.func90,Tryz.ntmps90
   go_upto_region 1 with fail
   rw [←c7.o,←aB.o];obtain ⟨z0,z1,z2,z3,z4,z5,b9,cc,cj,cw,bQ⟩:=gR aB.o aH.o hj.o ba.o;go_wp2;refine rt cw.o ?_;exact dc.dL aD.o rfl bQ.o
  | false=>
   obtain ⟨b1,cR,dq,rfl,iM,hD,jf,hP⟩:=aj.kids.head l7;obtain ⟨r,aO⟩:=oJ hD;have hg:(MRe.al kids).getD 0 .nil=dq.ab:=by rw [aO];rfl
   have cP:=mS aJ iM;have qA:∀ ae∈dq.aw,ae∈(MRe.node 7 sa sc set (some ⟨b1,cR,none⟩) kc kids mn mx mode n false).aw:=mF iM;have rG:rj (.node 7 set (MRe.al kids) mn mx mode n false)=if dq.ab.op=2∧s8 (dq.ab.kids.getD (dq.ab.kids.length - 1) .nil)=true∧fA (dq.ab.kids.getD (dq.ab.kids.length - 1) .nil)=true then some (gE 7 [im 2 (dq.ab.kids.take (dq.ab.kids.length - 1))]) else none:=by
    rw [rj,hg];simp only [true_and]
   obtain ⟨op1,aM,aN,set1,aS,kc1,aq,mn1,aI,mode1,n1,aL⟩:=dq;have g:=jf.node;obtain ⟨bg,aV,a6,bl,bq,bE,bF,bH⟩:=id g;obtain ⟨bK,d1,d2,bL,bO,bT,bU,bV⟩:=aH.o.au bg aV a6 bl bq bE bF bH;clear g bg aV a6 bl bq bE bF bH;have Ft:(MRe.ab (.node op1 aM aN set1 aS kc1 aq mn1 aI mode1 n1 aL)).kids=MRe.al aq:=rfl;have Fu:(MRe.ab (.node op1 aM aN set1 aS kc1 aq mn1 aI mode1 n1 aL)).op=op1:=rfl;rw [Ft,Fu] at rG
   by_cases h2:op1=2
   ·subst h2;have m6:2≤aq.length:=(kB cP).vc (.inl rfl);obtain ⟨l,hl⟩:∃ l,aq.length=l + 1:=⟨aq.length - 1,by omega⟩;obtain ⟨b2,eH,rfl,ajF,D8⟩:=hP.ch.dy (by omega);have m4:=D8 l (by omega);have lj:=hP.dy (List.getElem_mem (n:=l) (by omega));have hcap:=hP.ch.cap;have fc:=hP.ch.le;unfold maxLen at hcap;have F3:(MRe.al aq).length - 1=l:=by rw [MRe.ee];omega
    have xO:(MRe.al aq).getD ((MRe.al aq).length - 1) .nil=(aq[l]'(by omega)).ab:=by
     rw [F3,List.getD_eq_getElem?_getD,List.getElem?_eq_getElem (by rw [MRe.ee];omega),Option.getD_some,kQ]
    have o2:(MRe.al aq).take ((MRe.al aq).length - 1)=MRe.al (aq.take l):=by
     rw [F3,MRe.kP,MRe.kP,List.map_take]
    rw [xO,o2] at rG;simp only [true_and] at rG;have rM:(aq.take l).length=l:=by rw [List.length_take];omega
    have xR:gT w (some ⟨b2,eH,none⟩) kc1 (aq.take l):=⟨hP.ch.take l,fun x hx=> hP.dy (List.mem_of_mem_take hx)⟩;have dP:=fun (W:World) (h:I [] w W)=> Ir 2 (some ⟨b2,eH,none⟩) kc1 (aq.take l) W (xR.ah h);rw [rM] at dP;have yp:=C dP;have qB:∀ ae∈df l (some ⟨b2,eH,none⟩) ++ MRe.dN (aq.take l),ae∈(MRe.node 7 sa sc set (some ⟨b1,cR,none⟩) kc kids mn mx mode n false).aw:=fun ae hq=> qA ae (by
     simp only [MRe.aw,List.mem_append]
     rcases List.mem_append.1 hq with h | h
     ·refine .inr (.inl ?_);unfold df at h ⊢;rw [if_neg (by omega)]
      split at h
      ·simp at h
      ·simpa using h
     ·obtain ⟨y,hy,o0⟩:=MRe.tm h;exact .inr (.inr (MRe.mQ (List.mem_of_mem_take hy) o0)))
    have fY:=C qB;have eU:=C aj.fi;have dd:∀ W:World,(Instr.sliceAt 24 (M (some ⟨b2,eH,none⟩) aq.length kc1) none (some (H J l)) none).run Tryz.prog W=.ok (M (some ⟨b2,eH,none⟩) l kc1) W:=by
     intro W;have q1:(l:Int)≤kc1:=by omega
     simp [go_sem,q1]
    have hI:=fun (W:World) (h:I [] w W)=> acM (aq[l]'(by omega)) W (lj.ah h);have hK:=fun (W:World) (h:I [] w W)=> Ej (aq[l]'(by omega)) W (lj.ah h);obtain ⟨p,hp⟩:∃ p,p=s8 (aq[l]'(by omega)).ab:=⟨_,rfl⟩;obtain ⟨ae,hq⟩:∃ ae,ae=fA (aq[l]'(by omega)).ab:=⟨_,rfl⟩;rw [←hp,←hq] at rG;simp only [←hp] at hI;simp only [←hq] at hK;obtain ⟨cV,hk2⟩:∃ cV,cV=(aq[l]'(by omega)):=⟨_,rfl⟩;rw [←hk2] at m4 lj;simp only [←hk2] at hI hK;obtain ⟨op2,cg,cf,bj,ct,kc2,a8,mn2,bY,bX,bn,bZ⟩:=cV;have g:=m4.node;obtain ⟨bg,aV,a6,bl,bq,bE,bF,bH⟩:=id g;obtain ⟨c6,y1,dp,eb,ef,ej,ek,el⟩:=aH.o.au bg aV a6 bl bq bE bF bH;clear g bg aV a6 bl bq bE bF bH;simp only [MRe.val] at hI hK;have hI:=C hI;have hK:=C hK;have mN:IntKind.i64.wrap ((aq.length:Int) - 1)=(l:Int):=by rw [IntWalk.i64_in _ (by omega)];omega
    have FH:(0:Int)≤(l:Int):=by omega
    have aj9:(l:Int) < (aq.length:Int):=by omega
    have i5:l < aq.length:=by omega
    have St:=C rG;clear rG Ft Fu hg aO hD iM jf hP cP aJ aj D8 m4 lj hl xR rM xO o2 F3 hp hq hk2 qB qA dP m6;obtain ⟨ar,c1,c2,an,av,ay,ax,az⟩:=bI.o.ez;go_enter Tryz.func90,Tryz.ntmps90
    go_upto_region 1 with fail
    rw [←c7.o,←aB.o];go_wp2_with fail
    refine Calls.mono (hI.o _ aH.o) ?_;rintro e w3 ⟨rfl,aP⟩;have aR:=C aP;obtain ⟨u0,u1,u2,u3,u4,u5,u6,u7⟩:=aR.o.au c6 y1 dp eb ef ej ek el;clear aP ar c1 c2 an av ay ax az bK d1 d2 bL bO bT bU bV c6 y1 dp eb ef ej ek el hI
    cases p with
    | false=>
     have aD:=C (show rj (.node 7 set (MRe.al kids) mn mx mode n false)=none by rw [St.o,if_neg (fun h=> by cases h.1)]);obtain ⟨z0,z1,z2,z3,z4,z5,b9,cc,cj,cw,bQ⟩:=gR aB.o aH.o aR.o ba.o;go_wp2;refine rt cw.o ?_;exact dc.dL aD.o rfl bQ.o
    | true=>
     go_wp2_with fail
     refine Calls.mono (hK.o _ (aH.o.trans aR.o)) ?_;rintro e w4 ⟨rfl,bc⟩;have cl:=C (aR.o.trans bc);clear bc u0 u1 u2 u3 u4 u5 u6 u7 hK
     cases ae with
     | false=>
      have aD:=C (show rj (.node 7 set (MRe.al kids) mn mx mode n false)=none by rw [St.o,if_neg (fun h=> by cases h.2)]);obtain ⟨z0,z1,z2,z3,z4,z5,b9,cc,cj,cw,bQ⟩:=gR aB.o aH.o cl.o ba.o;go_wp2;refine rt cw.o ?_;exact dc.dL aD.o rfl bQ.o
     | true=>
      have aD:=C (show rj (.node 7 set (MRe.al kids) mn mx mode n false)=some (gE 7 [im 2 (MRe.al (aq.take l))]) by rw [St.o];simp);go_wp2_with fail
      refine Calls.mono (yp.o _ (aH.o.trans cl.o)) ?_;rintro e bS ⟨s,rfl,eE,gp,hk5,ig⟩;have dr:=C (cl.o.trans hk5);obtain ⟨c0,gh⟩:∃ c0,c0=s:=⟨_,rfl⟩;rw [←gh] at eE gp ig;have Hi:=C gh;have vH:=C eE;have Q8:=C gp;have M7:=C ig;clear hk5 gh eE gp ig;obtain ⟨bA,bB,bC,bD,bs,bt,bu,bo,bx,bw,bp,bz⟩:=s;simp only [MRe.val];have LH:=(I.a1 bS (bf bA bB bD bC bs bu bt bo bx bw bp bz)).heap (dr.o.h ba.o) (by simp);obtain ⟨z0,z1,z2,z3,z4,z5,b9,cc,cj⟩:=ew LH;have lz:=C LH;clear LH;go_wp2;obtain ⟨aY,cm,fy,hfr⟩:=anq (op:=7) (mn:=0) (mx:=0) (T:=26) (s:=c0) (src:=(MRe.node 7 sa sc set (some ⟨b1,cR,none⟩) kc kids mn mx mode n false).aw) aB.o aH.o dr.o ba.o cZ Q8.o (fun b ad=> fY.o b (M7.o b ad)) eU.o #[H J bA,M bB bD.length bC,M bs bu.length bt,H J bo,H J bx,H J bw,H J bp,F bz] (by rw [Hi.o];rfl);refine rt aY ?_;exact dc.iI (.node 7 none 0 [] (some ⟨bS.heap.size,0,none⟩) 1 [c0] 0 0 0 0 false) (by rw [aD.o];simp only [MRe.ab,MRe.al,vH.o];rfl) rfl cm fy hfr
   ·have Fl:(op1 !=2)=true:=by simpa using h2
    have aD:=C (show rj (.node 7 set (MRe.al kids) mn mx mode n false)=none by rw [rG,if_neg (fun h=> h2 h.1)]);clear rG Ft Fu hg aO hD iM jf hP cP aJ aj qA;obtain ⟨ar,c1,c2,an,av,ay,ax,az⟩:=bI.o.ez;go_enter Tryz.func90,Tryz.ntmps90
    go_upto_region 1 with fail
    rw [←c7.o,←aB.o];obtain ⟨z0,z1,z2,z3,z4,z5,b9,cc,cj,cw,bQ⟩:=gR aB.o aH.o hj.o ba.o;go_wp2;refine rt cw.o ?_;exact dc.dL aD.o rfl bQ.o
 ·have aD:=C (O7 (op:=op) (set:=set) (kids:=MRe.al kids) (mn:=mn) (mx:=mx) (mode:=mode) (n:=n) (neg:=neg) (fun h=> absurd h h7));obtain ⟨ar,c1,c2,an,av,ay,ax,az⟩:=bI.o.ez;go_enter Tryz.func90,Tryz.ntmps90
  go_upto_region 1 with fail
  rw [←c7.o,←aB.o];obtain ⟨z0,z1,z2,z3,z4,z5,b9,cc,cj,cw,bQ⟩:=gR aB.o aH.o hj.o ba.o;go_wp2;refine rt cw.o ?_;exact dc.dL aD.o rfl bQ.o
def sO (t:Tree):Bool:=oI t || sg t.op t.mn t.mx t.mode 1 (-1)
def sq:Tree→Option Tree
 | .node op set kids mn mx mode n neg=>
  if sO (.node op set kids mn mx mode n neg)=true∧sO (kids.getD 0 .nil)=true∧fA ((kids.getD 0 .nil).kids.getD 0 .nil)=false
  then some (.node 4 [] (kids.getD 0 .nil).kids (min mn (kids.getD 0 .nil).mn) (-1) 0 0 false) else none
theorem X5 {t:Tree} (h:sO t=true):t.op=4:=by
 simp only [sO,oI,sg,Bool.or_eq_true,Bool.and_eq_true,beq_iff_eq] at h
 rcases h with h | h
 ·exact h.1
 ·exact h.1
end Go.Proofs.YtjnlkjlbejelgaaGreat
