/- Part 22 of the proof. No condition: every lemma says its own. -/
import Derived.Test.YtjnlkjlbejelgaaGreatQat
import Derived.Test.YtjnlkjlbejelgaaGreatQau
namespace Go.Proofs.YtjnlkjlbejelgaaGreat
open Go.RowKit
open Go.Value renaming int→H,slice→M,bool→F
open Go.IntKind renaming i64→J
set_option maxRecDepth 100000
set_option maxHeartbeats 16000000
theorem beginsXA_iff (x:Int) (l:List Tree):beginsXA x l=l.any (beginsX x):=by
 induction l with
 | nil=> rfl
 | cons y r ih=> simp only [beginsXA,List.any_cons,ih]
theorem rbegins_any (x:Int) (m:MRe):∀ (w:World),m.OK w→m.tree.WFq→
  Calls Tryz.prog 135 #[m.val,H J x] w fun e w'=> e=.returned (F (beginsX x m.tree))∧Keeps [] w w':=by
 induction m using MRe.induct with
 | h op sa sc set ka kc kids mn mx mode n neg ih=>
  intro w k1 f1;obtain ⟨R,hR0⟩:∃ R,R=beginsX x (MRe.tree (.node op sa sc set ka kc kids mn mx mode n neg)):=⟨_,rfl⟩;rw [←hR0];replace hR0:R=if op=1 then set.any fun s=> decide (s.1≤x) && decide (x≤s.2) else if op=6 then true else if op=2 then beginsXC x (MRe.trees kids) else if op=3∨op=10∨op=4∨op=5∨op=9 then beginsXA x (MRe.trees kids) else false:=by rw [hR0];simp only [MRe.tree,beginsX]
  have HI:=gi (fun k (hk:k∈kids) W (h:Keeps [] w W)=> ih k hk W ((k1.kid hk).keep h) (wfq_kid f1 hk));have HNL:=gi (fun k (hk:k∈kids) W (h:Keeps [] w W)=> rnull_any k W ((k1.kid hk).keep h) (wfq_kid f1 hk));have hcap:=k1.nodes.cap;have hle:=k1.nodes.le;have hscap:=k1.spans.cap;have hsle:=k1.spans.le;unfold maxLen at hcap hscap;have HK:=gi k1.kids;have HSP:=gi k1.spans;simp only [MRe.val];obtain ⟨B,Y,c0,c1,c2,c3,c4,c5,c6,c7,HYE,HBE,KY⟩:=pre1 w op sa sc set ka kc kids mn mx mode n neg;clear ih k1 f1
  by_cases h1:op=1
  ·rw [if_pos h1] at hR0;subst h1;have HR0:=gi hR0;clear hR0;go_enter Tryz.func135,Tryz.ntmps135
   go_upto_region 1 with fail
   rw [←HYE.o,←HBE.o];go_wp2
   go_loopw [5] (fun i wr=> ∃ k:Nat,k≤set.length∧i=H J k∧(∀ s∈set.take k,(decide (s.1≤x) && decide (x≤s.2))=false)∧Y=wr) (fun i _=> set.length - (intOf i).toNat)
   case atStart=> exact ⟨0,Nat.zero_le _,rfl,by simp,rfl⟩
   case round=>
    obtain ⟨k,hkk,rfl,hpk,rfl⟩:=hrel;have HP:=gi hpk;clear hpk
    by_cases hlt:k < set.length
    ·obtain ⟨b,off,rfl,hb,hx⟩:=(HSP.o.keep KY.o).at_ (by omega);obtain ⟨e0,e1⟩:=hx k hlt;have hn:(decide (set[k].1≤x) && decide (x≤set[k].2))=false→∀ s∈set.take (k + 1),(decide (s.1≤x) && decide (x≤s.2))=false:=fun h s hs=> by
      rw [List.take_succ_eq_append_getElem hlt] at hs
      rcases List.mem_append.1 hs with hs | hs
      ·exact HP.o s hs
      ·simp only [List.mem_cons,List.not_mem_nil,or_false] at hs;subst hs;exact h
     have hf:(decide (set[k].1≤x) && decide (x≤set[k].2))=true→R=true:=fun h=> by rw [HR0.o];exact List.any_eq_true.2 ⟨_,List.getElem_mem hlt,h⟩
     generalize set[k]=s at *
     obtain ⟨lo,hi⟩:=s;simp only at e0 e1;have HN:=gi hn;have HF:=gi hf;clear hn hf hx
     by_cases a1:lo≤x
     ·by_cases a2:x≤hi
      ·have HR:=gi (HF.o (by simp [a1,a2]));go_wp2;go_ret;exact ⟨by rw [HR.o];rfl,KY.o⟩
      ·have H2:=gi (HN.o (by simp [a2]));have a2':hi < x:=by omega
       go_wp2;go_roundw
       case rel=> exact ⟨k + 1,by omega,by go_num,H2.o,trivial⟩
       case measure=> simp [intOf];omega
     ·have H2:=gi (HN.o (by simp [a1]));have a1':x < lo:=by omega
      go_wp2;go_roundw
      case rel=> exact ⟨k + 1,by omega,by go_num,H2.o,trivial⟩
      case measure=> simp [intOf];omega
    ·obtain rfl:k=set.length:=by omega
     have HR:=gi (show R=false by
      rw [HR0.o];have h:=HP.o;rw [List.take_length] at h;exact List.any_eq_false.2 fun s hs=> by rw [h s hs];simp)
     go_wp2;go_ret;exact ⟨by rw [HR.o];rfl,KY.o⟩
  ·rw [if_neg h1] at hR0
   by_cases h6:op=6
   ·rw [if_pos h6] at hR0;subst h6;have HR:=gi hR0;clear hR0 h1;go_enter Tryz.func135,Tryz.ntmps135
    go_upto_region 1 with fail
    rw [←HYE.o,←HBE.o];go_wp2;go_ret;exact ⟨by rw [HR.o];rfl,KY.o⟩
   ·rw [if_neg h6] at hR0
    by_cases h2:op=2
    ·rw [if_pos h2] at hR0;subst h2;have HR0:=gi hR0;clear hR0 h1 h6;go_enter Tryz.func135,Tryz.ntmps135
     go_upto_region 1 with fail
     rw [←HYE.o,←HBE.o];go_wp2
     go_loopw [6] (fun i wr=> ∃ k:Nat,k≤kids.length∧i=H J k∧beginsXC x ((MRe.trees kids).drop k)=beginsXC x (MRe.trees kids)∧Keeps [] Y wr) (fun i _=> kids.length - (intOf i).toNat)
     case atStart=> exact ⟨0,Nat.zero_le _,rfl,rfl,Keeps.refl _ _⟩
     case round=>
      obtain ⟨k,hkk,rfl,hpk,hkp⟩:=hrel;have HKP:=gi hkp;have y2:=hkp.c c2;clear hkp c0 c1 c2 c3 c4 c5 c6 c7
      by_cases hlt:k < kids.length
      ·obtain ⟨b,off,rfl,hb,hx⟩:=(HK.o.keep (KY.o.trans HKP.o)).nodes.kid (by omega);have hx0:=hx k hlt;have HC:=gi (HI.o kids[k] (List.getElem_mem hlt) wr (KY.o.trans HKP.o));have HC2:=gi (HNL.o kids[k] (List.getElem_mem hlt));rw [trees_drop kids k hlt,beginsXC] at hpk
       generalize kids[k]=m at *
       obtain ⟨q,hq⟩:∃ q,q=beginsX x m.tree:=⟨_,rfl⟩;obtain ⟨z,hz⟩:∃ z,z=nullP m.tree:=⟨_,rfl⟩;rw [←hq] at HC hpk;rw [←hz] at hpk;simp only [←hz] at HC2;have HP:=gi hpk;obtain ⟨op1,sa1,sc1,set1,ka1,kc1,kids1,mn1,mx1,mode1,n1,neg1⟩:=m;have g:=hx0.node;obtain ⟨e0,e1,e2,e3,e4,e5,e6,e7⟩:=id g;simp only [MRe.val] at HC HC2;clear g hx0 hx hq hz hpk;go_wp2_with fail
       refine Calls.mono HC.o ?_;rintro e w3 ⟨rfl,hk3⟩;have K3:=gi (HKP.o.trans hk3);have z2:=hk3.c y2;obtain ⟨f0,f1,f2,f3,f4,f5,f6,f7⟩:=hk3.c8 e0 e1 e2 e3 e4 e5 e6 e7;clear hk3 y2 e0 e1 e2 e3 e4 e5 e6 e7
       cases q with
       | true=>
        have HR:=gi (show R=true by rw [HR0.o,←HP.o];rfl);go_wp2;go_ret;exact ⟨by rw [HR.o];rfl,KY.o.trans K3.o⟩
       | false=>
        go_wp2_with fail
        refine Calls.mono (HC2.o _ (KY.o.trans K3.o)) ?_;rintro e w4 ⟨rfl,hk4⟩;have K4:=gi (K3.o.trans hk4);clear hk4
        cases z with
        | true=>
         have HN2:=gi (show beginsXC x ((MRe.trees kids).drop (k + 1))=beginsXC x (MRe.trees kids) from HP.o);go_wp2;go_roundw
         case rel=> exact ⟨k + 1,by omega,by go_num,HN2.o,K4.o⟩
         case measure=> simp [intOf];omega
        | false=>
         have HR:=gi (show R=false by rw [HR0.o,←HP.o];rfl);go_wp2;go_ret;exact ⟨by rw [HR.o];rfl,KY.o.trans K4.o⟩
      ·obtain rfl:k=kids.length:=by omega
       have HR:=gi (show R=false by rw [HR0.o,←hpk,List.drop_of_length_le (by rw [MRe.trees_length];exact Nat.le_refl _)];rfl);clear hpk;go_wp2;go_ret;exact ⟨by rw [HR.o];rfl,KY.o.trans HKP.o⟩
    ·rw [if_neg h2] at hR0
     by_cases hA:op=3∨op=10∨op=4∨op=5∨op=9
     ·rw [if_pos hA,beginsXA_iff] at hR0;have HR0:=gi hR0;clear hR0 h1 h2 h6
      rcases hA with rfl | rfl | rfl | rfl | rfl
      all_goals
       go_enter Tryz.func135,Tryz.ntmps135
       go_upto_region 1 with fail
       rw [←HYE.o,←HBE.o];go_wp2
       go_loopw [7] (fun i wr=> ∃ k:Nat,k≤kids.length∧i=H J k∧(∀ y∈(MRe.trees kids).take k,beginsX x y=false)∧Keeps [] Y wr) (fun i _=> kids.length - (intOf i).toNat)
       case atStart=> exact ⟨0,Nat.zero_le _,rfl,by simp,Keeps.refl _ _⟩
       case round=>
        obtain ⟨k,hkk,rfl,hpk,hkp⟩:=hrel;have HP:=gi hpk;have HKP:=gi hkp;have y2:=hkp.c c2;clear hpk hkp c0 c1 c2 c3 c4 c5 c6 c7
        by_cases hlt:k < kids.length
        ·obtain ⟨b,off,rfl,hb,hx⟩:=(HK.o.keep (KY.o.trans HKP.o)).nodes.kid (by omega);have hx0:=hx k hlt;have HC:=gi (HI.o kids[k] (List.getElem_mem hlt) wr (KY.o.trans HKP.o));have hlt':k < (MRe.trees kids).length:=by rw [MRe.trees_length];exact hlt
         have hn:=fun h=> take_all (p:=(beginsX x)) hlt' HP.o h;have hf:=fun h=> any_true (p:=(beginsX x)) hlt' h;rw [trees_getElem kids k hlt] at hn hf;have HN:=gi hn;have HF:=gi hf
         generalize kids[k]=m at *
         obtain ⟨q,hq⟩:∃ q,q=(beginsX x) m.tree:=⟨_,rfl⟩;rw [←hq] at HC HN HF;obtain ⟨op1,sa1,sc1,set1,ka1,kc1,kids1,mn1,mx1,mode1,n1,neg1⟩:=m;have g:=hx0.node;obtain ⟨e0,e1,e2,e3,e4,e5,e6,e7⟩:=id g;simp only [MRe.val] at HC;clear g hx0 hx hq hn hf;go_wp2_with fail
         refine Calls.mono HC.o ?_;rintro e w3 ⟨rfl,hk3⟩;have K3:=gi (HKP.o.trans hk3);clear hk3
         cases q with
         | false=>
          have HN2:=gi (HN.o rfl);go_wp2;go_roundw
          case rel=> exact ⟨k + 1,by omega,by go_num,HN2.o,K3.o⟩
          case measure=> simp [intOf];omega
         | true=>
          have HF2:=gi (HF.o rfl);go_wp2;go_ret;exact ⟨by rw [HR0.o,HF2.o];rfl,KY.o.trans K3.o⟩
        ·obtain rfl:k=kids.length:=by omega
         have h0:=any_false (p:=(beginsX x)) (l:=MRe.trees kids) (by rw [MRe.trees_length];exact HP.o);have H0:=gi h0;clear h0;go_wp2;go_ret;exact ⟨by rw [HR0.o,H0.o];rfl,KY.o.trans HKP.o⟩
     ·rw [if_neg hA] at hR0;have HR:=gi hR0;have h3:¬ op=3:=fun h=> hA (.inl h);have h10:¬ op=10:=fun h=> hA (.inr (.inl h));have h4:¬ op=4:=fun h=> hA (.inr (.inr (.inl h)));have h5:¬ op=5:=fun h=> hA (.inr (.inr (.inr (.inl h))));have h9:¬ op=9:=fun h=> hA (.inr (.inr (.inr (.inr h))));have q1:(op==1)=false:=by simpa using h1
      have q6:(op==6)=false:=by simpa using h6
      have q2:(op==2)=false:=by simpa using h2
      have q3:(op==3)=false:=by simpa using h3
      have q10:(op==10)=false:=by simpa using h10
      have q4:(op==4)=false:=by simpa using h4
      have q5:(op==5)=false:=by simpa using h5
      have q9:(op==9)=false:=by simpa using h9
      clear hR0 hA;go_enter Tryz.func135,Tryz.ntmps135
      go_upto_region 1 with fail
      rw [←HYE.o,←HBE.o];go_wp2;go_ret;exact ⟨by rw [HR.o];rfl,KY.o⟩
theorem oper_append_any {P:Program} {o:Oper} {A:Act} {w:World} {K:Act→World→Prop} {Q:Exit→Act→World→Prop}
  (s x:Operand) (t:TypeId) (hop:o.op=Op.call {callee:=Callee.builtin Builtin.append,args:=#[s,x],argTypes:=#[t,t]})
  (e:TypeId) (i:TypeInfo) (z:Value) (size bytes:Nat) (ht:P.underlying t=some (.slice e)) (hi:P.info? e=some i) (hz:i.zero=some z)
  (hsize:i.size=size) (hby:i.bytes=bytes) (hzs:z.cells.size=size) (hsz:0 < size)
  (a:Option Nat) (n c:Nat) (xs:List Value) (hs:A.eval s=sv a n c) (hown:SliceAt w e size a n c xs)
  (xa:Option Addr) (m cc:Nat) (news:List Value) (hx:A.eval x=M xa m cc) (hl:news.length=m * size) (hnews:0 < m→∃ ad,xa=some ad∧∀ j u,news[j]? =some u→w.cell? (ad.add j)=some u) (h1:∀ u∈news,u.oneCell'=true)
  (hlen:n + m≤140737488355328) (hbytes:(n + m) * bytes≤140737488355328)
  (h:∀ a' c' w',SliceAt w' e size a' (n + m) c' (xs ++ news)→Keeps a.toList w w'→(a'=a∨∃ g,a'=some g∧w.heap.size≤g)→K (A.put o.dst (sv a' (n + m) c')) w'):
  Oper.wp P o A w K Q:=by
 obtain ⟨a',c',w',hr,h2,h3,h4⟩:=run_append_any (P:=P) w t o.type e i z size bytes ht hi hz hsize hby hzs hsz a n c xs hown xa m cc news hl hnews h1 hlen hbytes;unfold Oper.wp execOp;simp only [hop,resolve,invoke,builtin,Sem.run_bind,Sem.run_pure,Result.andThen_ok,List.map_toArray,List.map_cons,List.map_nil,hs,hx,hr];exact h a' c' w' h2 h3 h4
theorem SliceAt.src {w:World} {e:Nat} {a:Option Nat} {n c:Nat} {xs:List Value} (h:SliceAt w e 1 a n c xs):0 < n→∃ ad,(a.map fun g=> (⟨g,0,none⟩:Addr))=some ad∧∀ j u,xs[j]? =some u→w.cell? (ad.add j)=some u:=fun h0=> by
 cases a with
 | none=> obtain ⟨_,h2,_⟩:=h;omega
 | some g=>
  refine ⟨⟨g,0,none⟩,rfl,fun j u hu=> ?_⟩;obtain ⟨hj,hu⟩:=List.getElem?_eq_some_iff.1 hu;rw [add_none,Nat.zero_add,h.cell j hj,hu]
theorem ints_one (xs:List Int):∀ u∈xs.map (H J),u.oneCell'=true:=by
 intro u hu;obtain ⟨x,_,rfl⟩:=List.mem_map.1 hu
 rfl
def IntsPost (w:World) (xs:List Int) (e:Ending) (w':World):Prop:=
 ∃ a c,e=.returned (sv a xs.length c)∧SliceAt w' 3 1 a xs.length c (xs.map (H J))∧Keeps [] w w'∧∀ g,a=some g→w.heap.size≤g
theorem boundsT_length (t:Tree):(boundsT t).length≤2 * t.bulk:=by
 induction t using Tree.induct with
 | h op set kids mn mx mode n neg ih=>
  have hL:∀ l:List Tree,(∀ k∈l,k∈kids)→(boundsL l).length≤2 * Tree.bulks l:=by
   intro l
   induction l with
   | nil=> intro _;simp [boundsL,Tree.bulks]
   | cons k ks ihl=>
    intro hl;have h1:=ih k (hl k (by simp));have h2:=ihl fun q hq=> hl q (by simp [hq]);simp only [boundsL,Tree.bulks,List.length_append];omega
  have:=hL kids fun _ h=> h
  simp only [boundsT,Tree.bulk,List.length_append,endsF_length];omega
theorem boundsL_take (l:List Tree) (k:Nat) (h:k < l.length):boundsL (l.take (k + 1))=boundsL (l.take k) ++ boundsT l[k]:=by
 rw [List.take_succ_eq_append_getElem h]
 generalize l.take k=a
 induction a with
 | nil=> simp [boundsL]
 | cons x r ih=> simp only [List.cons_append,boundsL,ih,List.append_assoc]
theorem boundsL_le (l:List Tree) (k:Nat):(boundsL (l.take k)).length≤2 * Tree.bulks l:=by
 have h1:∀ a:List Tree,(boundsL a).length≤2 * Tree.bulks a:=by
  intro a
  induction a with
  | nil=> simp [boundsL,Tree.bulks]
  | cons x r ih=>
   have:=boundsT_length x
   simp only [boundsL,Tree.bulks,List.length_append];omega
 have h2:=h1 (l.take k);have h3:=Tree.bulks_take_drop l k;omega
theorem rbounds_any (m:MRe):∀ (w:World),m.OK w→m.tree.WFq→m.tree.bulk≤100000→
  Calls Tryz.prog 134 #[m.val] w (IntsPost w (boundsT m.tree)):=by
 induction m using MRe.induct with
 | h op sa sc set ka kc kids mn mx mode n neg ih=>
  intro w k1 f1 hb;obtain ⟨i0,hi,hz0,hz1,hz2⟩:=info_parts infoInt;have Hi:=gi hi;have Hz0:=gi hz0;have Hz1:=gi hz1;have Hz2:=gi hz2;clear hi hz0 hz1 hz2;obtain ⟨R,hR0⟩:∃ R,R=boundsT (MRe.tree (.node op sa sc set ka kc kids mn mx mode n neg)):=⟨_,rfl⟩;rw [←hR0];replace hR0:R=endsF set ++ boundsL (MRe.trees kids):=by rw [hR0];simp only [MRe.tree,boundsT]
  have hno:=wfq_node f1;have hsl:∀ i (h:i < set.length),0≤set[i].1∧set[i].1≤set[i].2∧set[i].2≤1114111:=by
   by_cases h1:op=1
   ·exact (hno.hset h1).bounds
   ·intro i h;rw [hno.hnset h1] at h;simp at h
  obtain ⟨hbl,hbs,hbk⟩:=kids_bulk hb;have hbb:set.length + Tree.bulks (MRe.trees kids)≤100000:=by
   have:1 + set.length + Tree.bulks (MRe.trees kids)≤100000:=hb
   omega
  have HI:=gi (fun k (hk:k∈kids) W (h:Keeps [] w W)=> ih k hk W ((k1.kid hk).keep h) (wfq_kid f1 hk) (hbk k hk));have HBL:=gi (fun k=> boundsL_le (MRe.trees kids) k);have hcap:=k1.nodes.cap;have hle:=k1.nodes.le;have hscap:=k1.spans.cap;have hsle:=k1.spans.le;unfold maxLen at hcap hscap;have HK:=gi k1.kids;have HSP:=gi k1.spans;have HSL:=gi hsl;have HR0:=gi hR0;simp only [MRe.val];obtain ⟨B,Y,c0,c1,c2,c3,c4,c5,c6,c7,HYE,HBE,KY⟩:=pre1 w op sa sc set ka kc kids mn mx mode n neg;clear ih k1 f1 hno hsl hbk hb hR0;go_enter Tryz.func134,Tryz.ntmps134
  go_upto_region 1 with fail
  rw [←HYE.o,←HBE.o];go_wp2
  go_loopw [3,4] (fun v i wr=> ∃ (k:Nat) (a:Option Nat) (c:Nat),k≤set.length∧i=H J k∧v=sv a (2 * k) c∧SliceAt wr 3 1 a (2 * k) c ((endsF (set.take k)).map (H J))∧Keeps [] Y wr∧∀ g,a=some g→Y.heap.size≤g) (fun _ i _=> set.length - (intOf i).toNat)
  case atStart=> exact ⟨0,none,0,Nat.zero_le _,rfl,rfl,SliceAt.nil _ _ _,Keeps.refl _ _,by simp⟩
  case round=>
   obtain ⟨k,a,c,hkk,rfl,rfl,hsl,hkp,hga⟩:=hrel;have HSA:=gi hsl;have HKP:=gi hkp;have HGA:=gi hga;obtain ⟨d0,d1,d2,d3,d4,d5,d6,d7⟩:=hkp.c8 c0 c1 c2 c3 c4 c5 c6 c7;clear hsl hkp hga
   by_cases hlt:k < set.length
   ·obtain ⟨b,off,hkb,hbx,hx⟩:=(HSP.o.keep (KY.o.trans HKP.o)).at_ (by omega)
    cases hkb
    obtain ⟨e0,e1⟩:=hx k hlt;obtain ⟨o1,o2,o3⟩:=HSL.o k hlt;have hft:set.take (k + 1)=set.take k ++ [set[k]]:=List.take_succ_eq_append_getElem hlt
    generalize set[k]=s at *
    obtain ⟨lo,hi⟩:=s;simp only at e0 e1 o1 o2 o3;have hef:endsF (set.take (k + 1))=endsF (set.take k) ++ [lo,hi + 1]:=by rw [hft,endsF_append];rfl
    have HEF:=gi hef;have hkI:(k:Int) < (set.length:Int):=by omega
    have hk0:(0:Int)≤(k:Int):=by omega
    have hw1:IntKind.i64.wrap (hi + 1)=hi + 1:=IntWalk.i64_in _ (by omega);clear hx hft hef;simp only [sv];go_wp2;refine rg (S:=fun w'=> w'.cell? ⟨B,1,none⟩=some (M (some ⟨b,off,none⟩) set.length sc)∧w'.cell? ⟨b,off + k * 2,none⟩=some (H J lo)∧w'.cell? ⟨b,off + k * 2 + 1,none⟩=some (H J hi)) (fun _ k=> ⟨k.c d1,k.c e0,k.c e1⟩) fun kz hHeld=> ?_;refine tk 0 ?_;refine tk 1 ?_;refine tk 2 ?_;refine tk 3 ?_;refine tk 4 ?_;refine tk 5 ?_;refine tk 6 ?_;refine tk 7 ?_;refine tk 8 ?_;refine tk 9 ?_;refine tk 10 ?_;refine tk 11 ?_;refine tk 12 ?_;refine tk 13 ?_;refine j6 14 fun K hK=> ?_;go_simp;have E1:=gi (((Keeps.refl [] wr).drew).alloc (.cells #[H J lo,H J (hi + 1)] 3));refine hK.out _ _ (kz.o _ E1.o) fun hHeld=> ?_;clear hK K;try go_frame
    refine j6 15 fun K hK=> ?_;refine oper_append_any (.tmp 13) (.tmp 27) 22 rfl 3 i0 _ 1 8 Tryz.underlying22 Hi.o Hz0.o Hz1.o Hz2.o rfl (by decide) a (2 * k) c _ rfl (HSA.o.keep E1.o (by simp)) (some ⟨wr.heap.size,0,none⟩) 2 2 [H J lo,H J (hi + 1)] rfl rfl (fun _=> ⟨_,rfl,news_row wr.drew [H J lo,H J (hi + 1)] 3⟩) (by intro u hu;simp at hu;rcases hu with rfl | rfl <;> rfl) (by omega) (by omega) ?_;intro a2 c2 w2 hsl2 hk2 ha2;have S2:=gi hsl2;have K2:=gi (show Keeps [] Y w2 from (HKP.o.trans E1.o).after hk2 (by intro x hx;simp at hx;exact .inr (HGA.o x hx)));have hB:∀ g,a=some g→g ∉ [B]∧g ∉ [b]:=fun g hg=> by
     have h1:=HGA.o g hg;have h2:b < Y.heap.size:=by
      obtain ⟨b',off',hkb',hbx',_⟩:=(HSP.o.keep KY.o).at_ (by omega)
      cases hkb';exact hbx'
     have h3:B < Y.heap.size:=by rw [HYE.o,HBE.o];simp
     simp;omega
    have HB:=gi hB;have G2:=gi (show ∀ g,a2=some g→Y.heap.size≤g by
     intro g hg
     rcases ha2 with h | ⟨g',h,h2⟩
     ·exact HGA.o g (by rw [←h,hg])
     ·rw [hg] at h;cases h;have:=HKP.o.size;simp at h2;omega)
    have q1:=hk2.cell (E1.o.c d1) (by simp;intro h;have:=(HB.o _ h).1;simp at this);have q2:=hk2.cell (E1.o.c e0) (by simp;intro h;have:=(HB.o _ h).2;simp at this);have q3:=hk2.cell (E1.o.c e1) (by simp;intro h;have:=(HB.o _ h).2;simp at this);clear hsl2 hk2 ha2 hB;refine hK.out _ _ (⟨q1,q2,q3⟩) (fun hHeld=> ?_);clear hK K;try go_frame
    refine tk 16 ?_;refine wd ?_;clear q1 q2 q3 e0 e1 d0 d1 d2 d3 d4 d5 d6 d7 hHeld;simp only [sv];go_wp2;go_roundw
    case rel=> exact ⟨k + 1,a2,c2,by omega,by go_num,rfl,by rw [HEF.o,List.map_append];exact S2.o,K2.o,G2.o⟩
    case measure=> simp [intOf];omega
   ·obtain rfl:k=set.length:=by omega
    rw [List.take_length] at HSA;simp only [sv];go_wp2
    go_loopw [3,5] (fun v i wq=> ∃ (k:Nat) (a:Option Nat) (c:Nat),k≤kids.length∧i=H J k∧v=sv a (endsF set ++ boundsL ((MRe.trees kids).take k)).length c∧SliceAt wq 3 1 a (endsF set ++ boundsL ((MRe.trees kids).take k)).length c ((endsF set ++ boundsL ((MRe.trees kids).take k)).map (H J))∧Keeps [] Y wq∧∀ g,a=some g→Y.heap.size≤g) (fun _ i _=> kids.length - (intOf i).toNat)
    case atStart=> exact ⟨0,a,c,Nat.zero_le _,rfl,by rw [List.take_zero,boundsL,List.append_nil,endsF_length];rfl,by rw [List.take_zero,boundsL,List.append_nil,endsF_length];exact HSA.o,HKP.o,HGA.o⟩
    case round=>
     clear d0 d1 d2 d3 d4 d5 d6 d7 HSA HKP HGA;obtain ⟨k,a,c,hkk,rfl,rfl,hsl,hkp,hga⟩:=hrel;have HSA:=gi hsl;have HKP:=gi hkp;have HGA:=gi hga;obtain ⟨d0,d1,d2,d3,d4,d5,d6,d7⟩:=hkp.c8 c0 c1 c2 c3 c4 c5 c6 c7;clear hsl hkp hga
     by_cases hlt:k < kids.length
     ·obtain ⟨b,off,hkb,hbx,hx⟩:=(HK.o.keep (KY.o.trans HKP.o)).nodes.kid (by omega)
      cases hkb
      have hx0:=hx k hlt;have HC:=gi (HI.o kids[k] (List.getElem_mem hlt) wr (KY.o.trans HKP.o));have hlt':k < (MRe.trees kids).length:=by rw [MRe.trees_length];exact hlt
      have hbt:=boundsL_take (MRe.trees kids) k hlt';have hbl1:=HBL.o (k + 1);rw [hbt] at hbl1;rw [trees_getElem kids k hlt] at hbt hbl1
      generalize kids[k]=m at *
      obtain ⟨q,hq⟩:∃ q,q=boundsT m.tree:=⟨_,rfl⟩;rw [←hq] at HC hbt hbl1;obtain ⟨P,hP⟩:∃ P,P=endsF set ++ boundsL ((MRe.trees kids).take k):=⟨_,rfl⟩;have hPn:endsF set ++ boundsL ((MRe.trees kids).take (k + 1))=P ++ q:=by rw [hbt,hP,List.append_assoc]
      have hPl:P.length + q.length≤200000:=by
       rw [hP];simp only [List.length_append,endsF_length] at hbl1 ⊢;omega
      rw [←hP] at HSA ⊢;have HPN:=gi hPn;obtain ⟨op1,sa1,sc1,set1,ka1,kc1,kids1,mn1,mx1,mode1,n1,neg1⟩:=m;have g:=hx0.node;obtain ⟨e0,e1,e2,e3,e4,e5,e6,e7⟩:=id g;simp only [MRe.val] at HC;clear g hx0 hx hq hP hPn hbt hbl1;simp only [sv];go_wp2_with fail
      refine Calls.mono HC.o ?_;rintro e w3 ⟨a3,c3,rfl,hs3,hk3,hg3⟩;have S3:=gi hs3;have HSB:=gi (HSA.o.keep hk3 (by simp));have K3:=gi (HKP.o.trans hk3);clear hs3 hk3 hg3;simp only [sv]
      go_wp2_with (at_builtin;refine wpList_append_any rfl (.tmp 36) (.tmp 42) 22 rfl 3 i0 _ 1 8 Tryz.underlying22 Hi.o Hz0.o Hz1.o Hz2.o rfl (by decide) a P.length c _ rfl HSB.o (a3.map fun g=> ⟨g,0,none⟩) q.length c3 (q.map (H J)) rfl (by simp) S3.o.src (ints_one q) (by omega) (by omega) ?hk)
      case hk=>
       intro a4 c4 w4 hs4 hk4 ha4;rw [←List.map_append] at hs4;have S4:=gi hs4;have K4:=gi (show Keeps [] Y w4 from K3.o.after hk4 (by intro x hx;simp at hx;exact .inr (HGA.o x hx)));have G4:=gi (show ∀ g,a4=some g→Y.heap.size≤g by
        intro g hg
        rcases ha4 with h | ⟨g',h,h2⟩
        ·exact HGA.o g (by rw [←h,hg])
        ·rw [hg] at h;cases h;have:=K3.o.size;omega)
       clear hs4 hk4 ha4;simp only [sv];go_wp2;go_roundw
       case rel=> exact ⟨k + 1,a4,c4,by omega,by go_num,by rw [HPN.o,List.length_append],by rw [HPN.o,List.length_append];exact S4.o,K4.o,G4.o⟩
       case measure=> simp [intOf];omega
     ·obtain rfl:k=kids.length:=by omega
      have hRe:endsF set ++ boundsL ((MRe.trees kids).take kids.length)=R:=by
       rw [HR0.o,List.take_of_length_le (by rw [MRe.trees_length];exact Nat.le_refl _)]
      rw [hRe] at HSA ⊢;clear hRe;simp only [sv];go_wp2;go_ret;exact ⟨a,c,rfl,HSA.o,KY.o.trans HKP.o,fun g hg=> Nat.le_trans KY.o.size (HGA.o g hg)⟩
theorem rapart_any (m1 m2:MRe) (w:World) (k1:m1.OK w) (k2:m2.OK w) (f1:m1.tree.WFq) (f2:m2.tree.WFq) (b1:m1.tree.bulk≤100000) (b2:m2.tree.bulk≤100000):
  Calls Tryz.prog 97 #[m1.val,m2.val] w fun e w'=> e=.returned (F (apartP m1.tree m2.tree))∧Keeps [] w w':=by
 obtain ⟨i0,hi,hz0,hz1,hz2⟩:=info_parts infoInt;have Hi:=gi hi;have Hz0:=gi hz0;have Hz1:=gi hz1;have Hz2:=gi hz2;clear hi hz0 hz1 hz2;have HB1:=fun (W:World) (h:Keeps [] w W)=> rbounds_any m1 W (k1.keep h) f1 b1;have HB2:=fun (W:World) (h:Keeps [] w W)=> rbounds_any m2 W (k2.keep h) f2 b2;have HG1:=fun (x:Int) (W:World) (h:Keeps [] w W)=> rbegins_any x m1 W (k1.keep h) f1;have HG2:=fun (x:Int) (W:World) (h:Keeps [] w W)=> rbegins_any x m2 W (k2.keep h) f2;have hl1:=boundsT_length m1.tree;have hl2:=boundsT_length m2.tree;obtain ⟨R,hR0⟩:∃ R,R=apartP m1.tree m2.tree:=⟨_,rfl⟩;rw [←hR0];unfold apartP at hR0;obtain ⟨L1,hL1⟩:∃ L,L=boundsT m1.tree:=⟨_,rfl⟩;obtain ⟨L2,hL2⟩:∃ L,L=boundsT m2.tree:=⟨_,rfl⟩;rw [←hL1] at hl1 hR0;rw [←hL2] at hl2 hR0;simp only [←hL1] at HB1;simp only [←hL2] at HB2;obtain ⟨p1,hp1⟩:∃ p:Int→Bool,p=fun x=> beginsX x m1.tree:=⟨_,rfl⟩;obtain ⟨p2,hp2⟩:∃ p:Int→Bool,p=fun x=> beginsX x m2.tree:=⟨_,rfl⟩;have hR0:R=(L1 ++ L2).all fun x=> !(p1 x && p2 x):=by rw [hR0,hp1,hp2]
 have HG1:∀ (x:Int) (W:World),Keeps [] w W→Calls Tryz.prog 135 #[m1.val,H J x] W fun e w'=> e=.returned (F (p1 x))∧Keeps [] W w':=by rw [hp1];exact HG1
 have HG2:∀ (x:Int) (W:World),Keeps [] w W→Calls Tryz.prog 135 #[m2.val,H J x] W fun e w'=> e=.returned (F (p2 x))∧Keeps [] W w':=by rw [hp2];exact HG2
 have HR0:=gi hR0;have hll:(L1 ++ L2).length≤400000:=by rw [List.length_append];omega
 have hl1':L1.length≤200000:=by omega
 have hl2':L2.length≤200000:=by omega
 obtain ⟨op1,sa1,sc1,set1,ka1,kc1,kids1,mn1,mx1,mode1,n1,neg1⟩:=m1;obtain ⟨op2,sa2,sc2,set2,ka2,kc2,kids2,mn2,mx2,mode2,n2,neg2⟩:=m2;simp only [MRe.val] at HB1 HB2 HG1 HG2 ⊢;have HB1:=gi HB1;have HB2:=gi HB2;have HG1:=gi HG1;have HG2:=gi HG2;clear hR0 hL1 hL2 hp1 hp2 hl1 hl2 k1 k2 f1 f2 b1 b2;obtain ⟨B,Y,c0,c1,c2,c3,c4,c5,c6,c7,d0,d1,d2,d3,d4,d5,d6,d7,HYE,HBE,KY⟩:=pre2 w op1 sa1 sc1 set1 ka1 kc1 kids1 mn1 mx1 mode1 n1 neg1 op2 sa2 sc2 set2 ka2 kc2 kids2 mn2 mx2 mode2 n2 neg2;go_enter Tryz.func97,Tryz.ntmps97
 go_upto_region 1 with fail
 rw [←HYE.o,←HBE.o]
 go_cut [5] (fun s5 wx=> ∃ (V:World) (a:Option Nat) (c:Nat),V=wx∧s5=sv a (L1 ++ L2).length c∧SliceAt V 3 1 a (L1 ++ L2).length c ((L1 ++ L2).map (H J))∧Keeps [] Y V)
 case first=>
  refine rg (S:=fun w'=> (w'.cell? ⟨B,0,none⟩=some (H J op1)∧w'.cell? ⟨B,1,none⟩=some (M sa1 set1.length sc1)∧w'.cell? ⟨B,2,none⟩=some (M ka1 kids1.length kc1)∧w'.cell? ⟨B,3,none⟩=some (H J mn1)∧w'.cell? ⟨B,4,none⟩=some (H J mx1)∧w'.cell? ⟨B,5,none⟩=some (H J mode1)∧w'.cell? ⟨B,6,none⟩=some (H J n1)∧w'.cell? ⟨B,7,none⟩=some (F neg1))∧(w'.cell? ⟨(B+1),0,none⟩=some (H J op2)∧w'.cell? ⟨(B+1),1,none⟩=some (M sa2 set2.length sc2)∧w'.cell? ⟨(B+1),2,none⟩=some (M ka2 kids2.length kc2)∧w'.cell? ⟨(B+1),3,none⟩=some (H J mn2)∧w'.cell? ⟨(B+1),4,none⟩=some (H J mx2)∧w'.cell? ⟨(B+1),5,none⟩=some (H J mode2)∧w'.cell? ⟨(B+1),6,none⟩=some (H J n2)∧w'.cell? ⟨(B+1),7,none⟩=some (F neg2))) (fun _ k=> ⟨⟨k.c c0,k.c c1,k.c c2,k.c c3,k.c c4,k.c c5,k.c c6,k.c c7⟩,⟨k.c d0,k.c d1,k.c d2,k.c d3,k.c d4,k.c d5,k.c d6,k.c d7⟩⟩) fun kz hHeld=> ?_;refine tk 0 ?_;refine tk 2 ?_;refine j6 1 fun K hK=> ?_;go_simp
  go_at_call 134
  refine Calls.mono (HB1.o _ (KY.o.drew)) ?_;rintro e w3 ⟨a3,q3,rfl,hs3,hk3,hg3⟩;have S3:=gi hs3;have K3:=gi (((Keeps.refl [] Y).drew).trans hk3);have G3:=gi (show ∀ g,a3=some g→Y.heap.size≤g from hg3);clear hs3 hk3 hg3;simp only [sv];refine hK.out _ _ (kz.o _ K3.o) fun hHeld=> ?_;clear hK K;try go_frame
  refine j6 3 fun K hK=> ?_;go_simp
  go_at_call 134
  refine Calls.mono (HB2.o _ (KY.o.trans K3.o)) ?_;rintro e w4 ⟨a4,q4,rfl,hs4,hk4,hg4⟩;have S4:=gi hs4;have S3b:=gi (S3.o.keep hk4 (by simp));have K4:=gi (K3.o.trans hk4);clear hs4 hk4 hg4;simp only [sv];refine hK.out _ _ (kz.o _ K4.o) fun hHeld=> ?_;clear hK K;try go_frame
  refine j6 4 fun K hK=> ?_;refine oper_append_any (.tmp 8) (.tmp 10) 22 rfl 3 i0 _ 1 8 Tryz.underlying22 Hi.o Hz0.o Hz1.o Hz2.o rfl (by decide) a3 L1.length q3 _ rfl S3b.o (a4.map fun g=> ⟨g,0,none⟩) L2.length q4 (L2.map (H J)) rfl (by simp) S4.o.src (ints_one L2) (by omega) (by omega) ?_;intro a5 q5 w5 hs5 hk5 ha5;rw [←List.map_append,←List.length_append] at hs5;have S5:=gi hs5;have K5:=gi (show Keeps [] Y w5 from K4.o.after hk5 (by intro x hx;simp at hx;exact .inr (G3.o x hx)));clear hs5 hk5 ha5;rw [←List.length_append];refine hK.out _ _ (kz.o _ K5.o) fun hHeld=> ?_;clear hK K;try go_frame
  refine tk 5 ?_;refine wd ?_;go_wp2;go_meet;exact ⟨_,a5,q5,rfl,by rw [List.length_append],S5.o,K5.o⟩
 case rest=>
  obtain ⟨V,a,c,rfl,rfl,hsl,hkV⟩:=hcut;have HSL:=gi hsl;have KV:=gi hkV;obtain ⟨L,hL⟩:∃ L,L=L1 ++ L2:=⟨_,rfl⟩;rw [←hL] at HSL HR0 hll ⊢;clear hsl hL;simp only [sv];go_wp2
  go_loopw [6] (fun i wr=> ∃ k:Nat,k≤L.length∧i=H J k∧((L.take k).all fun x=> !(p1 x && p2 x))=true∧Keeps [] V wr) (fun i _=> L.length - (intOf i).toNat)
  case atStart=> exact ⟨0,Nat.zero_le _,rfl,by rw [List.take_zero];rfl,Keeps.refl _ _⟩
  case round=>
   obtain ⟨k,hkk,rfl,hpk,hkp⟩:=hrel;have HP:=gi hpk;have HKP:=gi (hkV.trans hkp);have HKV:=gi hkp;obtain ⟨s0,s1,s2,s3,s4,s5,s6,s7⟩:=HKP.o.c8 c0 c1 c2 c3 c4 c5 c6 c7;obtain ⟨t0,t1,t2,t3,t4,t5,t6,t7⟩:=HKP.o.c8 d0 d1 d2 d3 d4 d5 d6 d7;have HSR:=HSL.o.keep hkp (by simp);clear hpk hkp c0 c1 c2 c3 c4 c5 c6 c7 d0 d1 d2 d3 d4 d5 d6 d7 hkV
   by_cases hlt:k < L.length
   ·cases a with
    | none=> exfalso;have:=HSR.2.1;omega
    | some g=>
     have hx:=HSR.cell k (by simpa using hlt);have hx:wr.cell? ⟨g,k,none⟩=some (H J L[k]):=by rw [hx];simp
     have hft:L.take (k + 1)=L.take k ++ [L[k]]:=List.take_succ_eq_append_getElem hlt;have hmem:L[k]∈L:=List.getElem_mem hlt;obtain ⟨x,hxe⟩:∃ x,x=L[k]:=⟨_,rfl⟩;rw [←hxe] at hx hft hmem;have HC1:=HG1.o x;have HC2:=HG2.o x;have hnext:(!(p1 x && p2 x))=true→((L.take (k + 1)).all fun x=> !(p1 x && p2 x))=true:=fun h=> by rw [hft,List.all_append,HP.o,List.all_cons,List.all_nil,h];rfl
     have hfound:(!(p1 x && p2 x))=false→R=false:=fun h=> by
      rw [HR0.o]
      cases hq:L.all fun x=> !(p1 x && p2 x) with
      | false=> rfl
      | true=> rw [List.all_eq_true.1 hq x hmem] at h;cases h
     obtain ⟨q1,hq1⟩:∃ q,q=p1 x:=⟨_,rfl⟩;obtain ⟨q2,hq2⟩:∃ q,q=p2 x:=⟨_,rfl⟩;simp only [←hq1] at HC1 hnext hfound;simp only [←hq2] at HC2 hnext hfound;have HC1:=gi HC1;have HC2:=gi HC2;have HN:=gi hnext;have HF:=gi hfound;have hkI:(k:Int) < (L.length:Int):=by omega
     have hk0:(0:Int)≤(k:Int):=by omega
     clear hft hmem hxe hnext hfound hq1 hq2 HSR;simp only [Option.map_some];go_wp2;refine rg (S:=fun w'=> ((w'.cell? ⟨B,0,none⟩=some (H J op1)∧w'.cell? ⟨B,1,none⟩=some (M sa1 set1.length sc1)∧w'.cell? ⟨B,2,none⟩=some (M ka1 kids1.length kc1)∧w'.cell? ⟨B,3,none⟩=some (H J mn1)∧w'.cell? ⟨B,4,none⟩=some (H J mx1)∧w'.cell? ⟨B,5,none⟩=some (H J mode1)∧w'.cell? ⟨B,6,none⟩=some (H J n1)∧w'.cell? ⟨B,7,none⟩=some (F neg1))∧(w'.cell? ⟨(B+1),0,none⟩=some (H J op2)∧w'.cell? ⟨(B+1),1,none⟩=some (M sa2 set2.length sc2)∧w'.cell? ⟨(B+1),2,none⟩=some (M ka2 kids2.length kc2)∧w'.cell? ⟨(B+1),3,none⟩=some (H J mn2)∧w'.cell? ⟨(B+1),4,none⟩=some (H J mx2)∧w'.cell? ⟨(B+1),5,none⟩=some (H J mode2)∧w'.cell? ⟨(B+1),6,none⟩=some (H J n2)∧w'.cell? ⟨(B+1),7,none⟩=some (F neg2)))∧w'.cell? ⟨g,k,none⟩=some (H J x)) (fun _ k=> ⟨⟨⟨k.c s0,k.c s1,k.c s2,k.c s3,k.c s4,k.c s5,k.c s6,k.c s7⟩,⟨k.c t0,k.c t1,k.c t2,k.c t3,k.c t4,k.c t5,k.c t6,k.c t7⟩⟩,k.c hx⟩) fun kz hHeld=> ?_;refine tk 0 ?_;refine tk 1 ?_;refine tk 2 ?_;refine tk 3 ?_;refine tk 4 ?_;refine j6 5 fun K hK=> ?_;go_simp
     go_at_call 135
     refine Calls.mono (HC1.o _ ((KY.o.trans HKP.o).drew)) ?_;rintro e w3 ⟨rfl,hk3⟩;have E3:=gi (((Keeps.refl [] wr).drew).trans hk3);clear hk3;refine hK.out _ _ (kz.o _ E3.o) fun hHeld=> ?_;clear hK K;try go_frame
     refine tk 6 ?_
     cases q1 with
     | false=>
      refine tf 7 ?_;refine tf 8 ?_;refine tf 9 ?_;refine tf 10 ?_;refine tf 11 ?_;refine branch_off (i:=12) rfl (by kernel_rfl) (by rfl) (by assumption) ?_;try go_frame
      refine tk 13 ?_;refine wd ?_;have H2:=gi (HN.o rfl);have KR:=gi (HKV.o.trans E3.o);clear s0 s1 s2 s3 s4 s5 s6 s7 t0 t1 t2 t3 t4 t5 t6 t7 hx hHeld;go_wp2;go_roundw
      case rel=> exact ⟨k + 1,by omega,by go_num,H2.o,KR.o⟩
      case measure=> simp [intOf];omega
     | true=>
      refine tk 7 ?_;refine tk 8 ?_;refine tk 9 ?_;refine tk 10 ?_;refine tk 11 ?_;refine j6 12 fun K hK=> ?_;go_simp
      go_at_call 135
      refine Calls.mono (HC2.o _ ((KY.o.trans HKP.o).trans E3.o)) ?_;rintro e w4 ⟨rfl,hk4⟩;have E4:=gi (E3.o.trans hk4);clear hk4;refine hK.out _ _ (kz.o _ E4.o) fun hHeld=> ?_;clear hK K;try go_frame
      refine tk 13 ?_;refine wd ?_;have KR:=gi (HKV.o.trans E4.o);have KW:=gi ((KY.o.trans HKP.o).trans E4.o);clear s0 s1 s2 s3 s4 s5 s6 s7 t0 t1 t2 t3 t4 t5 t6 t7 hx hHeld
      cases q2 with
      | false=>
       have H2:=gi (HN.o rfl);go_wp2;go_roundw
       case rel=> exact ⟨k + 1,by omega,by go_num,H2.o,KR.o⟩
       case measure=> simp [intOf];omega
      | true=>
       have HR:=gi (HF.o rfl);go_wp2;go_ret;exact ⟨by rw [HR.o];rfl,KW.o⟩
   ·obtain rfl:k=L.length:=by omega
    have HR:=gi (show R=true by rw [HR0.o,←HP.o,List.take_length]);clear s0 s1 s2 s3 s4 s5 s6 s7 t0 t1 t2 t3 t4 t5 t6 t7 HSR;go_wp2;go_ret;exact ⟨by rw [HR.o];rfl,KY.o.trans HKP.o⟩
end Go.Proofs.YtjnlkjlbejelgaaGreat
