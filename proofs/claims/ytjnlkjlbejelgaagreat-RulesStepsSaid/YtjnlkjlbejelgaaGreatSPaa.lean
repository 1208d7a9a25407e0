/- Part of the proof. No condition: every lemma says its own. -/
import Derived.Test.YtjnlkjlbejelgaaGreatRSPbb
namespace Go.Proofs.YtjnlkjlbejelgaaGreat
open Go.RowKit
open Go.Value renaming int→H,slice→M,bool→F
open Go.IntKind renaming i64→J
set_option maxRecDepth 100000
set_option maxHeartbeats 16000000
theorem ans {P:Program} (w:World) (t lT e:TypeId) (i:TypeInfo) (z:Value) (size bytes:Nat) (ht:P.underlying t=some (.slice e)) (hi:P.info? e=some i) (aW:i.zero=some z)
  (vb:i.size=size) (ps:i.bytes=bytes) (tz:z.cells.size=size) (cZ:0 < size)
  (a:Option Nat) (n c:Nat) (xs:List Value) (hown:cr w e size a n c xs)
  (aX:Addr) (m eG:Nat) (iq:List Value) (hl:iq.length=m * size) (hnews:∀ j u,iq[j]? =some u→w.cell? (aX.add j)=some u) (h1:∀ u∈iq,u.oneCell'=true)
  (hm:0 < m) (jC:n + m≤140737488355328) (tW:(n + m) * bytes≤140737488355328):
  ∃ g c' w',(Builtin.append_ #[t,t] lT #[de a n c,M (some aX) m eG]).run P w=.ok (M (some ⟨g,0,none⟩) (n + m) c') w'∧cr w' e size (some g) (n + m) c' (xs ++ iq)∧cr w' e size a n c xs∧I a.toList w w'∧(a=some g∨w.heap.size≤g):=by
 obtain ⟨g,c',w',aO,h2,h3,h4⟩:=Ph (P:=P) w t lT e i z size bytes ht hi aW vb ps tz cZ a n c xs hown aX m eG iq hl hnews h1 hm jC tW;refine ⟨g,c',w',aO,h2,?_,h3,h4⟩;subst vb;subst ps
 cases a with
 | none=> obtain ⟨hx,rfl,rfl⟩:=hown;exact ⟨hx,rfl,rfl⟩
 | some g0=>
  obtain ⟨hx,cur,hg,DV,n5,pt,LB⟩:=hown
  by_cases hroom:n + m≤c
  ·have SU:n * i.size + iq.length≤cur.size:=by rw [hl,pt,←Nat.add_mul];exact Nat.mul_le_mul_right _ hroom
   have p4:=run_append_room (P:=P) w t lT e i ht hi g0 n c cur hg aX m eG iq hl hnews h1 hroom SU;have he:=aO.symm.trans p4
   cases he
   refine ⟨hx,_,setRow_heap w g cur _ e _ hg,DV,n5,?_,?_⟩
   ·simp only [List.size_toArray,List.length_append,List.length_take,List.length_drop,Array.length_toList];omega
   ·rw [LB,←hx,List.append_assoc];exact List.take_left
  ·have hown:cr w e i.size (some g0) n c xs:=⟨hx,cur,hg,DV,n5,pt,LB⟩;have holds:∀ j u,xs[j]? =some u→w.cell? ((⟨g0,0,none⟩:Addr).add j)=some u:=hown.acF.cells (g:=g0) rfl;have p4:=run_append_grow (P:=P) w t lT e i z ht hi aW ⟨g0,0,none⟩ n c xs hx holds aX m eG iq hl hnews (by omega) (by unfold maxLen at n5;omega) (growslice_fits (by omega) tW);have he:=aO.symm.trans p4
   cases he
   exact hown.ah (((I.refl [] w).drew).alloc _) (by simp)
theorem O2 {P:Program} {o:Oper} {b7:Act} {w:World} {ai:Act→World→Prop} {fv:Exit→Act→World→Prop}
  (s x:Operand) (t:TypeId) (mL:o.op=Op.call {callee:=Callee.builtin Builtin.append,args:=#[s,x],argTypes:=#[t,t]})
  (e:TypeId) (i:TypeInfo) (z:Value) (size bytes:Nat) (ht:P.underlying t=some (.slice e)) (hi:P.info? e=some i) (aW:i.zero=some z)
  (vb:i.size=size) (ps:i.bytes=bytes) (tz:z.cells.size=size) (cZ:0 < size)
  (a:Option Nat) (n c:Nat) (xs:List Value) (hs:b7.eval s=de a n c) (hown:cr w e size a n c xs)
  (aX:Addr) (m eG:Nat) (iq:List Value) (hx:b7.eval x=M (some aX) m eG) (hl:iq.length=m * size) (hnews:∀ j u,iq[j]? =some u→w.cell? (aX.add j)=some u) (h1:∀ u∈iq,u.oneCell'=true)
  (hm:0 < m) (jC:n + m≤140737488355328) (tW:(n + m) * bytes≤140737488355328)
  (h:∀ g c' w',cr w' e size (some g) (n + m) c' (xs ++ iq)→cr w' e size a n c xs→I a.toList w w'→(a=some g∨w.heap.size≤g)→ai (b7.put o.dst (M (some ⟨g,0,none⟩) (n + m) c')) w'):
  Oper.wp P o b7 w ai fv:=by
 obtain ⟨g,c',w',aO,h2,h3,h4,h5⟩:=ans (P:=P) w t o.type e i z size bytes ht hi aW vb ps tz cZ a n c xs hown aX m eG iq hl hnews h1 hm jC tW;unfold Oper.wp execOp;simp only [mL,resolve,invoke,builtin,Sem.run_bind,Sem.run_pure,Result.andThen_ok,List.map_toArray,List.map_cons,List.map_nil,hs,hx,aO];exact h g c' w' h2 h3 h4 h5
theorem cr.aik {w:World} {e g n c y3 c':Nat} {xs kZ:List Value} (h:cr w e 1 (some g) n c xs) (k:cr w e 1 (some g) y3 c' kZ):c=c':=by
 obtain ⟨_,cur,h1,_,_,h2,_⟩:=h;obtain ⟨_,apL,aj,_,_,cV,_⟩:=k;rw [h1] at aj
 cases aj
 omega
theorem cr.ajc {w:World} {e g n m c:Nat} {xs kZ:List Value} (h:cr w e 1 (some g) (n + m) c (xs ++ kZ)) (hx:xs.length=n):cr w e 1 (some g) n c xs:=by
 obtain ⟨h0,cur,h1,h2,h3,h4,h5⟩:=h;refine ⟨by omega,cur,h1,by omega,h3,h4,?_⟩;have eW:=congrArg (List.take n) h5;rw [List.take_take,List.take_left' hx] at eW;rw [Nat.mul_one,←eW]
 congr 1
 omega
theorem abl (bP:Option Addr) (pc:Nat) (xs:List Int) (w:World) (h:hr w bP xs) (N8:bP=none→xs=[]) (ad:xs.length≤1000000):
  Calls Tryz.prog 63 #[M bP xs.length pc] w fun e w'=> ∃ r:kD,e=.returned r.v∧r.path=xs∧hr w' r.bP xs∧r.path.length≤r.pc∧I [] w w'∧∀ aX,r.bP=some aX→w.heap.size≤aX.block∧aX.block < w'.heap.size:=by
 obtain ⟨gq,hi,dQ,fj,eI⟩:=info_parts F9;have gH:=C hi;have gI:=C dQ;have gJ:=C fj;have gK:=C eI;have cW:=C h;clear hi dQ fj eI h;have N9:∀ (w:World) (a:Option Addr) (n c y3 c':Nat),(binOp .eql 22 (M a n c) (M none y3 c')).run Tryz.prog w=.ok (F a.isNone) w:=fun w a n c y3 c'=> Lib.run_eql_slice_nil w _ _ a n c y3 c' Tryz.underlying22
 cases bP with
 | none=>
  have h0:=N8 rfl;subst h0;clear N8;go_enter Tryz.func63,Tryz.ntmps63
  go_wp2;go_ret;exact ⟨⟨none,0,[]⟩,rfl,rfl,fun h=> by simp at h,Nat.le_refl _,I.refl _ _,fun _ h=> by cases h⟩
 | some a=>
  clear N8;go_enter Tryz.func63,Tryz.ntmps63
  go_wp2_with (at_builtin;refine tF rfl (.tmp 5) (.tmp 6) 22 rfl 3 gq _ 1 8 Tryz.underlying22 gH.o gI.o gJ.o gK.o rfl (by decide) (some w.heap.size) 0 0 [] rfl (cr.empty w _ _) (some a) xs.length pc (xs.map (H J)) rfl (by simp) ?hns (CF xs) (by omega) (by omega) ?hk)
  case hns=>
   have hh:=(cW.o.bG (I.a1 w (.cells #[] 3)) (fun _ _=> by simp)).src
   simpa using hh
  case hk=>
   intro dZ c' w' dd hk b8;have hU:=C dd;have b6:=C (show I [] w w' from ((I.refl [] w).alloc _).cn hk (by intro x hx;simp at hx;exact .inr (by omega)));have kR:=C (show ∀ g,dZ=some g→w.heap.size≤g∧g < w'.heap.size by
    intro g hg;subst hg;refine ⟨?_,dd.lt⟩
    rcases b8 with h | ⟨hv,h,h2⟩
    ·cases h;exact Nat.le_refl _
    ·cases h;have:w.heap.size≤(w.alloc (.cells #[] 3)).heap.size:=by simp
     omega)
   have bI:=C (show xs.length≤c' by
    cases dZ with
    | none=> obtain ⟨_,h2,h3⟩:=dd;omega
    | some g=> obtain ⟨_,_,_,h2,_⟩:=dd;omega)
   clear dd hk b8;go_wp2;go_ret;refine ⟨⟨dZ.map fun g=> ⟨g,0,none⟩,c',xs⟩,by simp [kD.v,de],rfl,?_,bI.o,b6.o,fun aX dC=> ?_⟩
   ·have h1:=hU.o;exact h1.zj
   ·cases dZ with
    | none=> cases dC
    | some g=> cases dC;exact kR.o g rfl
theorem amh (i:Int) (l:List Tree):(oH i l).length=dV l:=by
 induction l generalizing i with
 | nil=> rfl
 | cons x r ih=> simp only [oH,dV,List.length_append,List.length_map,(x5 x).1,ih]
theorem wQ.enter {n0 P dJ b iw:Nat} {Fc Xi:List Nat} {bP a a2:Option Nat} {c2 g:Nat} {rows new:List kD} {w wr E5 xB:World} (h9:Hj n0 P dJ b Fc bP a rows w) (k:I (P::(a.toList ++ bP.toList)) w wr) (j7:pW wr a2 c2 (rows ++ new)) (hf:∀ r∈new,∀ aX,r.bP=some aX→w.heap.size≤aX.block) (m4:a2=a∨∃ g,a2=some g∧w.heap.size≤g)
  (aj:I [] wr E5) (fk:I bP.toList E5 xB) (hg:bP=some g∨E5.heap.size≤g) (aQ:g < xB.heap.size) (ad:iw < n0∧iw≠P) (hm:∀ x∈Xi,x < n0∧x≠P):Hj n0 P dJ iw Xi (some g) a2 (rows ++ new) xB∧pW xB a2 c2 (rows ++ new):=by
 have hs:=k.size;have gQ:=aj.size;have kW:=fk.size;have Ov:=h9.h9;have hal:∀ x,a2=some x→x < wr.heap.size:=fun x hx=> by subst hx;exact j7.iJ.lt
 have vT:∀ x,a2=some x→bP≠some x:=fun x hx hp=> by
  rcases m4 with h | ⟨y,h,hy⟩
  ·exact h9.vT x (h ▸ hx) hp
  ·rw [hx] at h;cases h;have:=(h9.qE x hp).2;omega
 have aO:∀ r∈rows ++ new,∀ aX,r.bP=some aX→n0≤aX.block∧some aX.block≠bP∧aX.block < wr.heap.size:=fun r aO aX dC=> by
  have h1:=((j7.kz r aO).2.2 aX dC).1
  rcases List.mem_append.1 aO with h | h
  ·exact ⟨(h9.aO r h aX dC).1,(h9.aO r h aX dC).2,h1⟩
  ·have h2:=hf r h aX dC;exact ⟨by omega,fun h3=> by have:=(h9.qE _ h3.symm).2;omega,h1⟩
 have hpn:∀ x,x∈bP.toList→bP=some x:=fun x hx=> by simpa using hx
 refine ⟨⟨h9.gm,h9.lB,ad,hm,by omega,fun x hx=> ?_,fun x hx=> ?_,fun x hx hp=> ?_,fun r hm aX dC=> ⟨(aO r hm aX dC).1,fun h=> ?_⟩⟩,(j7.ah aj).bG fk (fun x hx hm=> vT x hx (hpn x hm)) (fun r hm aX dC hx=> (aO r hm aX dC).2.1 (hpn _ hx).symm)⟩
 ·rcases m4 with h | ⟨y,h,hy⟩
  ·exact h9.b8 x (h ▸ hx)
  ·rw [hx] at h;cases h;omega
 ·cases hx
  refine ⟨?_,aQ⟩
  rcases hg with h | h
  ·exact (h9.qE g h).1
  ·omega
 ·cases hp
  rcases hg with h | h
  ·exact vT g hx h
  ·have:=hal g hx;omega
 ·rcases hg with h1 | h1
  ·exact (aO r hm aX dC).2.1 (by rw [h,h1])
  ·have:=(aO r hm aX dC).2.2;cases h;omega
theorem wQ.ale {n0 P dJ b:Nat} {Fc:List Nat} {bP a a2:Option Nat} {pc an g:Nat} {path:List Int} {i:Int} {fs WI:List (List Int)} {rows new:List kD} {w wr E5 xB w':World} (h9:Hj n0 P dJ b Fc bP a rows w) (k:I (P::(a.toList ++ bP.toList)) w wr) (hf:∀ r∈new,∀ aX,r.bP=some aX→w.heap.size≤aX.block) (m4:a2=a∨∃ g,a2=some g∧w.heap.size≤g)
  (aj:I [] wr E5) (fk:I bP.toList E5 xB) (hg:bP=some g∨E5.heap.size≤g) (hold:cr xB 3 1 bP path.length pc (path.map (H J))) (ako:cr xB 3 1 (some g) (path.length + 1) an (path.map (H J) ++ [H J i])) (hn:new.map kD.path=fs.map (path ++ ·))
  (h:wQ P (some g) an (path ++ [i]) a2 (rows ++ new) WI xB w'):wQ P bP pc path a rows (fs ++ WI.map (i::·)) w w':=by
 obtain ⟨dZ,c',alT,rO,akv,akw,FK,ajR,yE,lp⟩:=h;have hs:=k.size;have gQ:=aj.size;have kW:=fk.size;have kk:I (P::(a.toList ++ bP.toList)) w xB:=(k.cn aj (by simp)).cn fk (fun x hx=> .inl (by simp at hx ⊢;exact .inr (.inr hx)));refine ⟨dZ,c',new ++ alT,kk.cn rO ?_,by rw [←List.append_assoc];exact akv,by rw [←List.append_assoc];exact akw,?_,?_,?_,?_⟩
 ·intro x hx;simp only [List.mem_cons,List.mem_append,Option.mem_toList] at hx ⊢
  rcases hx with h | h | h
  ·exact .inl (.inl h)
  ·rcases m4 with h2 | ⟨y,h2,hy⟩
   ·exact .inl (.inr (.inl (h2 ▸ h)))
   ·rw [h] at h2;cases h2;exact .inr hy
  ·cases h
   rcases hg with h2 | h2
   ·exact .inl (.inr (.inr h2))
   ·right;omega
 ·rw [List.map_append,hn,FK,List.map_append,List.map_map]
  congr 1
  apply List.map_congr_left
  intro ae _
  simp
 ·intro r aO aX dC
  rcases List.mem_append.1 aO with h | h
  ·exact hf r h aX dC
  ·have:=ajR r h aX dC;omega
 ·rcases yE with h | ⟨y,h,hy⟩
  ·rw [h];exact m4
  ·exact .inr ⟨y,h,by omega⟩
 ·cases bP with
  | none=> exact ⟨hold.1,hold.2⟩
  | some p=>
   by_cases hpg:g=p
   ·subst hpg;have hc:=hold.aik ako;subst hc;rw [List.length_append,List.map_append] at lp;exact lp.ajc (by simp)
   ·have hp:=h9.qE p rfl;have gm:=h9.gm;refine hold.ah rO (fun x hx hm=> ?_)
    cases hx
    simp only [List.mem_cons,List.mem_append,Option.mem_toList] at hm
    rcases hm with h | h | h
    ·omega
    ·rcases m4 with h2 | ⟨y,h2,hy⟩
     ·exact h9.vT p (h2 ▸ h) rfl
     ·rw [h] at h2;cases h2;omega
    ·cases h;exact hpg rfl
theorem amj (m:MRe):∀ (n0 P dJ b o:Nat) (bP:Option Nat) (pc:Nat) (path:List Int) (a:Option Nat) (c:Nat) (rows:List kD) (w:World),fb w b o m→m.aK w→w.cell? ⟨dJ,0,none⟩=some (.func (Fn.func 102) #[] #[.pointer (some ⟨P,0,none⟩),.pointer (some ⟨dJ,0,none⟩)])→
  w.heap[P]? =some (.cells #[de a rows.length c] 30 (0,0))→pW w a c rows→cr w 3 1 bP path.length pc (path.map (H J))→Hj n0 P dJ b m.aw bP a rows w→rows.length + dD m.ab≤1000000→path.length + m.ab.bm≤1000000→
  Calls Tryz.prog 102 #[.pointer (some ⟨b,o,none⟩),de bP path.length pc,.pointer (some ⟨P,0,none⟩),.pointer (some ⟨dJ,0,none⟩)] w fun e w'=> e=.returned (.tuple #[])∧wQ P bP pc path a rows (ia m.ab) w w':=by
 obtain ⟨gq,kn,dQ,fj,eI⟩:=info_parts F9;have gH:=C kn;have gI:=C dQ;have gJ:=C fj;have gK:=C eI;clear kn dQ fj eI;obtain ⟨LK,kn,dQ,fj,eI⟩:=info_parts abh;have JB:=C kn;have JC:=C dQ;have JD:=C fj;have JE:=C eI;clear kn dQ fj eI
 induction m using MRe.nq with
 | h op sa sc set ka kc kids mn mx mode n neg ih=>
  intro n0 P dJ b o bP pc path a c rows w h1 aj hc gm j7 dd Ox cZ hbk;have a2:=h1.node.c2;have hcap:=aj.ch.cap;have fc:=aj.ch.le;unfold maxLen at hcap;obtain ⟨R,aY⟩:∃ R,R=ia (MRe.ab (.node op sa sc set ka kc kids mn mx mode n neg)):=⟨_,rfl⟩;rw [←aY];have aD:=C (show R=[]::oH 0 (MRe.al kids) by rw [aY];simp only [MRe.ab,ia]);have oo:=C (show rows.length + (1 + dV (MRe.al kids))≤1000000 by simpa only [MRe.ab,dD] using cZ);have fY:=C (show path.length + 1 + Tree.ed (MRe.al kids)≤1000000 by simp only [MRe.ab,Tree.bm] at hbk;omega);have iL:=C aj.kids;have vx:=C (show ∀ x∈df kids.length ka ++ MRe.dN kids,x < n0∧x≠P from fun x hx=> Ox.hm x (by simp only [MRe.aw,List.mem_append] at hx ⊢;exact .inr hx));have jd:=C Ox;have ff:=C ih;have nm:=C j7;have hU:=C dd;have MH:=C gm;have mD:=C (fun (W:World) (h:I [] w W)=> abl (bP.map fun g=> ⟨g,0,none⟩) pc path W (dd.zj.bG h (fun _ _=> by simp)) (fun h=> by
   cases bP with
   | none=> have:=dd.2.1;exact List.eq_nil_of_length_eq_zero this
   | some g=> cases h) (by omega))
  have fQ:w.cell? ⟨P,0,none⟩=some (de a rows.length c):=by simp [World.cell?,gm]
  clear ih h1 aj j7 dd Ox cZ hbk gm aY;simp only [de] at fQ ⊢;go_enter Tryz.func102,Tryz.ntmps102
  go_upto_region 0 with fail
  go_cut [] (fun db=> ∃ W:World,W=db∧wQ P bP pc path a rows [[]] w W)
  case first=>
   have eA:=C ((I.refl [] w).drew);refine wp_region_held_drew (S:=fun _=> True) (by kernel_rfl) trivial (fun aF=> ?_);refine ag 1 ?_;refine kX 0 2 (fun ai af=> ?_) fun ai af=> ?_
   ·go_simp;refine af.out _ _ (trivial) (fun aF=> ?_);clear af ai;try go_frame
    refine bh 2 fun ai af=> ?_;go_simp;refine Calls.mono (mD.o _ eA.o) ?_;rintro gz w2 ⟨r,rfl,hQ,px,kI,hk2,hrf⟩;have aU:=C (eA.o.trans hk2);have jr:=C (And.intro hQ (And.intro px (And.intro kI hrf)));clear hQ px kI hk2 hrf;simp only [kD.v];refine af.out _ _ (trivial) (fun aF=> ?_);clear af ai;try go_frame
    refine bh 3 fun ai af=> ?_;go_simp;have aR:=C (I.a1 w2 (.cells #[M r.bP r.path.length r.pc] 22));refine af.out _ _ (trivial) (fun aF=> ?_);clear af ai;try go_frame
    refine bh 4 fun ai af=> ?_;refine O2 (.tmp 7) (.tmp 10) 30 rfl 22 LK _ 1 24 Tryz.underlying30 JB.o JC.o JD.o JE.o rfl (by decide) a rows.length c _ rfl (nm.o.iJ.ah (aU.o.trans aR.o) (by simp)) ⟨w2.heap.size,0,none⟩ 1 1 [r.v] rfl rfl (wa w2 [r.v] 22) (by intro u cy;simp at cy;subst cy;rfl) (by decide) (by have:=oo.o;omega) (by have:=oo.o;omega) ?_;intro g c1 w4 lp _ bc hg4;obtain ⟨⟨ji,eF⟩,z8⟩:=wQ.first jd.o nm.o MH.o hU.o aU.o jr.o.1 jr.o.2.1 jr.o.2.2.1 (fun aX dC=> ⟨by have:=(jr.o.2.2.2 aX dC).1;simpa using this,(jr.o.2.2.2 aX dC).2⟩) aR.o lp bc hg4;have tK:=C z8;simp only [de] at ji;clear lp bc hg4 z8;refine af.out _ _ (trivial) (fun aF=> ?_);clear af ai;try go_frame
    refine bh 5 fun ai af=> ?_;go_simp;refine af.out _ _ (trivial) (fun aF=> ?_);clear af ai;try go_frame
    refine dR ?_;go_wp2;go_meet;exact ⟨_,rfl,tK.o⟩
   ·go_simp;refine Calls.mono (mD.o _ eA.o) ?_;rintro gz w2 ⟨r,rfl,hQ,px,kI,hk2,hrf⟩;have aU:=C (eA.o.trans hk2);have jr:=C (And.intro hQ (And.intro px (And.intro kI hrf)));clear hQ px kI hk2 hrf;simp only [kD.v];have p2:=aU.o.c fQ;refine af.out _ _ (trivial) (fun aF=> ?_);clear af ai;try go_frame
    refine kX 0 3 (fun ai af=> ?_) fun ai af=> ?_
    ·go_simp;refine af.out _ _ (trivial) (fun aF=> ?_);clear af ai;try go_frame
     clear p2;refine bh 3 fun ai af=> ?_;go_simp;have aR:=C (I.a1 w2 (.cells #[M r.bP r.path.length r.pc] 22));refine af.out _ _ (trivial) (fun aF=> ?_);clear af ai;try go_frame
     refine bh 4 fun ai af=> ?_;refine O2 (.tmp 7) (.tmp 10) 30 rfl 22 LK _ 1 24 Tryz.underlying30 JB.o JC.o JD.o JE.o rfl (by decide) a rows.length c _ rfl (nm.o.iJ.ah (aU.o.trans aR.o) (by simp)) ⟨w2.heap.size,0,none⟩ 1 1 [r.v] rfl rfl (wa w2 [r.v] 22) (by intro u cy;simp at cy;subst cy;rfl) (by decide) (by have:=oo.o;omega) (by have:=oo.o;omega) ?_;intro g c1 w4 lp _ bc hg4;obtain ⟨⟨ji,eF⟩,z8⟩:=wQ.first jd.o nm.o MH.o hU.o aU.o jr.o.1 jr.o.2.1 jr.o.2.2.1 (fun aX dC=> ⟨by have:=(jr.o.2.2.2 aX dC).1;simpa using this,(jr.o.2.2.2 aX dC).2⟩) aR.o lp bc hg4;have tK:=C z8;simp only [de] at ji;clear lp bc hg4 z8;refine af.out _ _ (trivial) (fun aF=> ?_);clear af ai;try go_frame
     refine bh 5 fun ai af=> ?_;go_simp;refine af.out _ _ (trivial) (fun aF=> ?_);clear af ai;try go_frame
     refine dR ?_;go_wp2;go_meet;exact ⟨_,rfl,tK.o⟩
    ·go_simp;have aR:=C (I.a1 w2 (.cells #[M r.bP r.path.length r.pc] 22));have jh:=aR.o.c p2;refine af.out _ _ (trivial) (fun aF=> ?_);clear af ai;try go_frame
     refine bh 0 fun ai af=> ?_;go_simp;refine af.out _ _ (trivial) (fun aF=> ?_);clear af ai;try go_frame
     clear p2 jh;refine bh 4 fun ai af=> ?_;refine O2 (.tmp 7) (.tmp 10) 30 rfl 22 LK _ 1 24 Tryz.underlying30 JB.o JC.o JD.o JE.o rfl (by decide) a rows.length c _ rfl (nm.o.iJ.ah (aU.o.trans aR.o) (by simp)) ⟨w2.heap.size,0,none⟩ 1 1 [r.v] rfl rfl (wa w2 [r.v] 22) (by intro u cy;simp at cy;subst cy;rfl) (by decide) (by have:=oo.o;omega) (by have:=oo.o;omega) ?_;intro g c1 w4 lp _ bc hg4;obtain ⟨⟨ji,eF⟩,z8⟩:=wQ.first jd.o nm.o MH.o hU.o aU.o jr.o.1 jr.o.2.1 jr.o.2.2.1 (fun aX dC=> ⟨by have:=(jr.o.2.2.2 aX dC).1;simpa using this,(jr.o.2.2.2 aX dC).2⟩) aR.o lp bc hg4;have tK:=C z8;simp only [de] at ji;clear lp bc hg4 z8;refine af.out _ _ (trivial) (fun aF=> ?_);clear af ai;try go_frame
     refine bh 5 fun ai af=> ?_;go_simp;refine af.out _ _ (trivial) (fun aF=> ?_);clear af ai;try go_frame
     refine dR ?_;go_wp2;go_meet;exact ⟨_,rfl,tK.o⟩
  case rest=>
   obtain ⟨aE,rfl,hX⟩:=hcut;have hM:=C hX;obtain ⟨_,_,_,mj,_⟩:=hX;have aac:dJ ∉ P::(a.toList ++ bP.toList):=fun h=> by
    have h1:=jd.o.lB;simp only [List.mem_cons,List.mem_append,Option.mem_toList] at h
    rcases h with h | h | h
    ·exact h1.2 h
    ·have:=jd.o.b8 dJ h;omega
    ·have:=(jd.o.qE dJ h).1;omega
   have hnb:∀ x,x < n0→x≠P→x ∉ P::(a.toList ++ bP.toList):=fun x hx akR h=> by
    simp only [List.mem_cons,List.mem_append,Option.mem_toList] at h
    rcases h with h | h | h
    ·exact akR h
    ·have:=jd.o.b8 x h;omega
    ·have:=(jd.o.qE x h).1;omega
   have mW:=C hnb;have G2:=C aac;have Vt:=C hc;have wy:=C a2;have Nf:=mj.cell a2 (hnb b jd.o.ad.1 jd.o.ad.2);clear mj aac hnb hc a2 fQ mD nm hU MH;go_wp2
   go_loopw [17] (fun i wr=> ∃ k:Nat,k≤kids.length∧i=H J k∧wQ P bP pc path a rows ([]::oH 0 ((MRe.al kids).take k)) w wr) (fun i _=> kids.length - (intOf i).toNat)
   case atStart=> exact ⟨0,Nat.zero_le _,rfl,by rw [List.take_zero];exact hM.o⟩
   case round=>
    obtain ⟨k,hk,rfl,aa6⟩:=hrel;have QO:=C aa6;clear aa6
    by_cases aQ:k < kids.length
    ·obtain ⟨aa,eG,new,jI,H0,aaA,Tr,Zg,YS,gY⟩:=QO.o;have lP:=iL.o.bG jI (fun ae hq=> mW.o ae (vx.o ae hq).1 (vx.o ae hq).2);obtain ⟨iw,off,rfl,ad,hx⟩:=lP.ch.dy (by omega);have dI:=jI.cell Vt.o G2.o;have ea:=jI.cell wy.o (mW.o b jd.o.ad.1 jd.o.ad.2);have km:=lP.all kids[k] (List.getElem_mem aQ);have qB:∀ y∈df kids.length (some ⟨iw,off,none⟩) ++ MRe.dN kids,y < n0∧y≠P:=vx.o;have m5:iw < n0∧iw≠P:=qB iw (List.mem_append_left _ (by unfold df;rw [if_neg (by omega)];simp));have hm':∀ y∈kids[k].aw,y < n0∧y≠P:=fun y hy=> qB y (List.mem_append_right _ (MRe.mQ (List.getElem_mem aQ) hy));have i5:k < (MRe.al kids).length:=by rw [MRe.ee];exact aQ
     have hn:=acI (MRe.al kids) 0 k i5;rw [kQ kids k aQ,Int.zero_add] at hn;have eE:=UT i5;have akD:=adw (MRe.al kids) (k + 1);rw [kQ kids k aQ] at eE;have rI:kids[k].ab∈MRe.al kids:=by rw [MRe.kP];exact List.mem_map_of_mem (List.getElem_mem aQ)
     have hbl:=Tree.Ff rI;have N9:new.length=1 + dV ((MRe.al kids).take k):=by
      have h1:=congrArg List.length Tr;simp only [List.length_map,List.length_cons] at h1;have h2:=amh 0 ((MRe.al kids).take k);omega
     have af0:=C (show (rows ++ new).length + dD kids[k].ab≤1000000 by have:=oo.o;rw [List.length_append];omega);have PO:=C (show path.length + 1 + kids[k].ab.bm≤1000000 by have:=fY.o;omega);have iU:=C (fun (g acJ:Nat) (W:World) (h:I [] wr W) (ic:World) (h2:I bP.toList W ic) (hs:Hj n0 P dJ iw kids[k].aw (some g) aa (rows ++ new) ic) (j7:pW ic aa eG (rows ++ new)) (dd:cr ic 3 1 (some g) (path.length + 1) acJ (path.map (H J) ++ [H J (k:Int)]))=>
      ff.o kids[k] (List.getElem_mem aQ) n0 P dJ iw (off + k * 8) (some g) acJ (path ++ [(k:Int)]) aa eG (rows ++ new) ic (((hx k aQ).ah h).bG h2 (fun hm=> mW.o iw m5.1 m5.2 (List.mem_cons_of_mem _ (List.mem_append_right _ hm)))) ((km.ah h).bG h2 (fun y hy hm=> mW.o y (hm' y hy).1 (hm' y hy).2 (List.mem_cons_of_mem _ (List.mem_append_right _ hm)))) (h2.cell (h.c dI) (fun hm=> G2.o (List.mem_cons_of_mem _ (List.mem_append_right _ hm)))) (h2.heap (h.h H0) (fun hm=> by have:=(jd.o.qE P (by simpa using hm)).1;have:=jd.o.gm;omega)) j7 (by rw [List.length_append,List.map_append];exact dd) hs af0.o (by rw [List.length_append];exact PO.o))
     have eX:=C gY;have jF:=C jI;have afo:=C Tr;have afz:=C aaA;have VE:=C Zg;have Vo:=C YS;have PN:=C m5;have afd:=C hm';have dP:=C hn;have mM:path.length≤1000000:=by have:=fY.o;omega
     clear jI H0 aaA Tr Zg YS gY lP ad hx km qB m5 hm' i5 hn eE akD rI hbl N9 Nf;go_wp2;have eA:=C ((I.refl [] wr).drew);refine rg (S:=fun w'=> w'.cell? ⟨dJ,0,none⟩=some (.func (Fn.func 102) #[] #[.pointer (some ⟨P,0,none⟩),.pointer (some ⟨dJ,0,none⟩)])∧w'.cell? ⟨b,o + 2,none⟩=some (M (some ⟨iw,off,none⟩) kids.length kc)) (fun _ k=> ⟨k.c dI,k.c ea⟩) fun bM aF=> ?_;refine ag 0 ?_;refine ag 1 ?_;refine ag 2 ?_;refine ag 3 ?_;refine ag 4 ?_;refine ag 5 ?_;refine ag 6 ?_;refine ag 7 ?_;refine ag 8 ?_;refine bh 9 fun ai af=> ?_;go_simp;have ec:=C (eA.o.trans (I.a1 wr.drew (.cells #[H J k] 3)));refine af.out _ _ (bM.o _ ec.o) fun aF=> ?_;clear af ai;try go_frame
     refine bh 10 fun ai af=> ?_;refine O2 (.tmp 27) (.tmp 29) 22 rfl 3 gq _ 1 8 Tryz.underlying22 gH.o gI.o gJ.o gK.o rfl (by decide) bP path.length pc _ rfl (eX.o.ah ec.o (by simp)) ⟨wr.drew.heap.size,0,none⟩ 1 1 [H J (k:Int)] rfl rfl (wa wr.drew [H J (k:Int)] 3) (by intro u cy;simp at cy;subst cy;rfl) (by decide) (by omega) (by omega) ?_;intro g an w3 kW HV aP il;obtain ⟨aa3,aaz⟩:=wQ.enter jd.o jF.o afz.o VE.o Vo.o ec.o aP il kW.lt PN.o afd.o;have aeF:=C (iU.o g an _ ec.o w3 aP aa3 aaz kW);have qo:=C kW;have afp:=C HV;have iX:=C aP;have Jc:=C il;have y1:=aP.cell (ec.o.c dI) (fun hm=> G2.o (List.mem_cons_of_mem _ (List.mem_append_right _ hm)));have dp:=aP.cell (ec.o.c ea) (fun hm=> mW.o b jd.o.ad.1 jd.o.ad.2 (List.mem_cons_of_mem _ (List.mem_append_right _ hm)));clear kW HV aP il aa3 aaz iU;refine af.out _ _ (⟨y1,dp⟩) (fun aF=> ?_);clear af ai;try go_frame
     refine bh 11 fun ai af=> ?_;go_simp
     go_at_call 102
     have yI:=aeF.o;rw [List.length_append] at yI;simp only [de,Option.map_some] at yI;refine Calls.mono yI ?_;rintro gz bS ⟨rfl,h5⟩;have Qe:=C (wQ.ale jd.o jF.o VE.o Vo.o ec.o iX.o Jc.o afp.o qo.o afo.o h5);have z1:bS.cell? ⟨dJ,0,none⟩=some (.func (Fn.func 102) #[] #[.pointer (some ⟨P,0,none⟩),.pointer (some ⟨dJ,0,none⟩)]):=by
      obtain ⟨_,_,_,s5,_⟩:=Qe.o;exact s5.cell Vt.o G2.o
     have z2:bS.cell? ⟨b,o + 2,none⟩=some (M (some ⟨iw,off,none⟩) kids.length kc):=by
      obtain ⟨_,_,_,s5,_⟩:=Qe.o;exact s5.cell wy.o (mW.o b jd.o.ad.1 jd.o.ad.2)
     clear h5 yI;refine af.out _ _ (⟨z1,z2⟩) (fun aF=> ?_);clear af ai;try go_frame
     refine dR ?_;go_wp2;go_roundw
     case rel=> exact ⟨k + 1,by omega,by go_num,by rw [dP.o];exact Qe.o⟩
     case measure=> simp [intOf];omega
    ·obtain rfl:k=kids.length:=by omega
     have fB:([]:List Int)::oH 0 ((MRe.al kids).take kids.length)=R:=by rw [aD.o,show (MRe.al kids).take kids.length=MRe.al kids by rw [←MRe.ee kids,List.take_length]]
     rw [fB] at QO;clear fB;go_wp2
     go_end0
     exact ⟨rfl,QO.o⟩
theorem ahS (m:MRe) (w:World) (aj:m.aK w) (NR:m.ab.bm≤1000000):
  Calls Tryz.prog 60 #[m.val] w (Dk w m.ab):=by
 obtain ⟨U,gA⟩:∃ U,U=w.heap.size:=⟨_,rfl⟩;have aQ:=aj.fi;have cZ:=(AJ m.ab).1;have jd:=C (fun (W:World) (hs:W.heap.size=U + 3) (h1:fb W U 0 m) (h2:m.aK W) (h3:W.cell? ⟨U + 1 + 1,0,none⟩=some (.func (Fn.func 102) #[] #[.pointer (some ⟨U + 1,0,none⟩),.pointer (some ⟨U + 1 + 1,0,none⟩)])) (h4:W.heap[U + 1]? =some (.cells #[M none 0 0] 30 (0,0)))=> amj m (U + 3) (U + 1) (U + 1 + 1) U 0 none 0 [] none 0 [] W h1 h2 h3 h4 ⟨cr.nil _ _ _,by simp⟩ (cr.nil _ _ _)
  ⟨by omega,by omega,by omega,fun x hx=> by have:=aQ x hx;omega,by omega,(fun g hg=> by cases hg),(fun g hg=> by cases hg),(fun g hg=> by cases hg),(fun r aO=> by cases aO)⟩ (by simp only [List.length_nil];omega) (by simp only [List.length_nil];omega))
 have iL:=C aj;obtain ⟨ju,gL⟩:∃ r,r=m:=⟨_,rfl⟩;obtain ⟨op1,aM,aN,set1,aS,kc1,aq,mn1,aI,mode1,n1,aL⟩:=m;simp only [MRe.val];have m8:∀ (fn:Fn) (first cap:Array Value) (w:World),(Instr.makeFunc fn first cap).run Tryz.prog w=.ok (.func fn first cap) w:=fun _ _ _ _=> rfl;rw [←gL] at jd iL ⊢;have ou:ju.row=[H J op1,M aM set1.length aN,M aS aq.length kc1,H J mn1,H J aI,H J mode1,H J n1,F aL]:=by rw [gL];rfl
 have gN:=C ou;have jE:=C gA;clear gL ou aj aQ gA NR cZ;go_enter Tryz.func60,Tryz.ntmps60
 go_wp2_with fail
 rw [←jE.o];refine Calls.mono (jd.o _ ?_ ?_ ?_ ?_ ?_) ?_
 ·simp [jE.o]
 ·rw [jE.o];exact fb.ah (fb.box gN.o.symm) (I.a2 _ _ _)
 ·exact iL.o.ah (I.a3 w _ _ _)
 ·have hc:=Bd ((w.alloc (bf op1 aM set1 aN aS aq kc1 mn1 aI mode1 n1 aL)).alloc (.cells #[M none 0 0] 30)) #[.func (Fn.func 102) #[] #[.pointer (some ⟨U + 1,0,none⟩),.pointer (some ⟨U + 1 + 1,0,none⟩)]] 109 0;have hs:((w.alloc (bf op1 aM set1 aN aS aq kc1 mn1 aI mode1 n1 aL)).alloc (.cells #[M none 0 0] 30)).heap.size=U + 1 + 1:=by simp [jE.o]
  rw [hs] at hc;exact hc
 ·exact (I.a1 _ _).heap (by rw [jE.o];exact heap_alloc2_new w _ _) (by simp)
 rintro e w2 ⟨rfl,dZ,c',new,hk,hp,j7,hn,hf,b8,_⟩;have xJ:∀ x y z,(((w.alloc x).alloc y).alloc z).heap.size=U + 3:=by intro x y z;simp [jE.o]
 have b6:=C (((I.a3 w _ _ _).mono (S':=[U + 1]) (by simp)).trans hk);have hln:=congrArg List.length hn;simp only [List.length_map] at hln;obtain ⟨g,rfl⟩:∃ g,dZ=some g:=by
  cases dZ with
  | some g=> exact ⟨g,rfl⟩
  | none=>
   have h1:=j7.iJ.2.1;have h2:=(x5 ju.ab).1;have h3:1≤dD ju.ab:=by cases ju.ab;simp only [dD];omega
   simp only [List.nil_append] at h1;omega
 have S3:U + 3≤g:=by
  rcases b8 with h | ⟨y,h,hy⟩
  ·cases h
  ·cases h;rw [xJ] at hy;exact hy
 have fe:=C S3;have nm:=C j7;have dP:=C hn;have GY:=C hln;have gj:=C (show ∀ r∈new,∀ aX,r.bP=some aX→U≤aX.block from fun r aO aX dC=> by have:=hf r aO aX dC;rw [xJ] at this;omega);have p2:w2.cell? ⟨U + 1,0,none⟩=some (M (some ⟨g,0,none⟩) new.length c'):=by simp [World.cell?,hp,de]
 clear hk hp j7 hn hf b8 xJ hln S3;go_wp2;go_ret;refine ⟨g,c',new,by rw [←GY.o];rfl,?_,by simpa using nm.o,b6.o.mono (by intro x hx;simp at hx;subst hx;exact .inr (by have:=jE.o;omega)),by have:=fe.o;have:=jE.o;omega,fun r aO aX dC=> by have:=gj.o r aO aX dC;have:=jE.o;omega⟩;rw [dP.o]
 simp
theorem ami {p:List Int}:∀ (l:List Tree) (i:Int),p∈oH i l→∃ (k:Nat) (h:k < l.length) (ae:List Int),p=(i + k)::ae∧ae∈ia l[k]:=by
 intro l
 induction l with
 | nil=> intro i h;simp [oH] at h
 | cons x r ih=>
  intro i h;simp only [oH,List.mem_append,List.mem_map] at h
  rcases h with ⟨ae,hq,rfl⟩ | h
  ·exact ⟨0,by simp,ae,by simp,hq⟩
  ·obtain ⟨k,hk,ae,rfl,hq⟩:=ih (i + 1) h;exact ⟨k + 1,by simpa using hk,ae,by rw [show i + 1 + (k:Int)=i + ((k + 1:Nat):Int) by omega],by simpa using hq⟩
theorem amk:∀ (p:List Int) {t:Tree},p∈ia t→∃ x,jW t p=some x:=by
 intro p
 induction p with
 | nil=> intro t _;exact ⟨t,rfl⟩
 | cons x r ih=>
  intro t h
  cases t with
  | node op set kids mn mx mode n neg=>
   simp only [ia,List.mem_cons,reduceCtorEq,false_or] at h;obtain ⟨k,hk,ae,hq,hm⟩:=ami kids 0 h;rw [Int.zero_add] at hq
   cases hq
   obtain ⟨y,hy⟩:=ih hm;refine ⟨y,?_⟩;rw [jW,if_pos (by simp only [Tree.kids];omega)]
   simpa [Tree.kids,hk] using hy
theorem hr.alU {w:World} {xs:List Int} (h:hr w none xs):xs=[]:=by
 cases xs with
 | nil=> rfl
 | cons x r=> obtain ⟨b,off,h1,_⟩:=h (by simp);cases h1
theorem aom (k:Nat) (h:k < 17):∃ b,Mi[k * 2]? =some (.string b):=by
 obtain rfl | rfl | rfl | rfl | rfl | rfl | rfl | rfl | rfl | rfl | rfl | rfl | rfl | rfl | rfl | rfl | rfl:k=0∨k=1∨k=2∨k=3∨k=4∨k=5∨k=6∨k=7∨k=8∨k=9∨k=10∨k=11∨k=12∨k=13∨k=14∨k=15∨k=16:=by omega
 all_goals exact ⟨_,rfl⟩
def M9 (w:World) (t:Tree) (cp:Int) (ru:Bool) (e:Ending) (w':World):Prop:=
 ∃ a c rows,e=.returned (.tuple #[de a rows.length c,H J (gZ t cp ru)])∧tj w' 61 a c rows∧I [] w w'∧rows.map ei.s=if gZ t cp ru=0 then ug t cp ru else []
end Go.Proofs.YtjnlkjlbejelgaaGreat
