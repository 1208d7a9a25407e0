/- Part of the proof. No condition: every lemma says its own. -/
import Derived.Test.YtjnlkjlbejelgaaGreatRSaa
namespace Go.Proofs.YtjnlkjlbejelgaaGreat
open Go.RowKit
open Go.Value renaming int→H,slice→M,bool→F
open Go.IntKind renaming i64→J
set_option maxRecDepth 100000
set_option maxHeartbeats 16000000
theorem alC {l:List Int} {x:Int} (h:x∈l):x∈Lib.compact l:=by
 obtain ⟨j,c8,hx⟩:=List.getElem_of_mem h
 induction j using Nat.strongRecOn with
 | _ j ih=>
  by_cases h0:j=0∨l[j]!≠l[j - 1]!
  ·unfold Lib.compact Lib.compactUpTo;refine List.mem_map.2 ⟨j,List.mem_filter.2 ⟨by simpa using c8,?_⟩,by simp [c8,hx]⟩
   rcases h0 with h0 | h0
   ·exact Lib.keeps_lt_one _ j (by omega)
   ·exact Lib.keeps_pos (by simpa using h0)
  ·have h1:j≠0:=fun h=> h0 (.inl h);have h2:l[j]! =l[j - 1]!:=Decidable.byContradiction fun h=> h0 (.inr h);have hv:∀ i (h:i < l.length),l[i]! =l[i]:=fun i h=> by simp [h]
   rw [hv j c8,hv (j - 1) (by omega)] at h2;exact ih (j - 1) (by omega) (by omega) (by rw [←h2,hx])
theorem abT {b7 U:List (Int × Int)} {x:Int}:x∈wS b7 U↔∃ s∈b7 ++ U,x=s.1∨x=s.2 + 1:=by
 have h1:x∈wS b7 U↔x∈ld (b7 ++ U):=by
  unfold wS
  constructor
  ·intro h;exact (List.mem_mergeSort).1 (Xv h)
  ·intro h;exact alC ((List.mem_mergeSort).2 h)
 rw [h1];unfold ld;rw [List.mem_flatMap]
 simp
theorem aiL (b7 U:List (Int × Int)):(wS b7 U).Pairwise fun x y=> x < y:=by
 refine an1 ?_;have h:=List.pairwise_mergeSort (le:=fun x y:Int=> decide (x≤y)) (fun a b c h1 h2=> by simp at h1 h2 ⊢;omega) (fun a b=> by simp;omega) (ld (b7 ++ U));exact h.imp fun h=> by simpa using h
theorem Xb {l:List (Int × Int)} (hg:rr l) {n:Nat} {x:Int} (hn:n≤l.length) (akd:∀ i (h:i < l.length),i < n→l[i].2 < x):
  mc l n x≤l.length∧(∀ i (h:i < l.length),i < mc l n x→l[i].2 < x)∧(s4 l (mc l n x) x=true↔lH l x):=by
 have fc:=Rr l n x hn;have Ti:∀ i (h:i < l.length),i < mc l n x→l[i].2 < x:=by
  intro i h hi
  by_cases hin:i < n
  ·exact akd i h hin
  ·unfold mc at hi;have c8:i - n < ((l.drop n).takeWhile fun s=> decide (s.2 < x)).length:=by omega
   have h1:=List.all_eq_true.1 (List.all_takeWhile (p:=fun s:Int × Int=> decide (s.2 < x)) (l:=l.drop n)) _ (List.getElem_mem c8);have h2:((l.drop n).takeWhile fun s=> decide (s.2 < x))[i - n]=l[i]:=by
    have h3:=(List.takeWhile_prefix (fun s:Int × Int=> decide (s.2 < x)) (l:=l.drop n)).getElem c8;rw [h3,List.getElem_drop]
    congr 1;omega
   rw [h2] at h1
   simpa using h1
 refine ⟨fc,Ti,?_⟩;have akH:∀ (h:mc l n x < l.length),¬ l[mc l n x].2 < x:=by
  intro h hc;have dB:(l.drop n)=(l.drop n).takeWhile (fun s=> decide (s.2 < x)) ++ (l.drop n).dropWhile (fun s=> decide (s.2 < x)):=List.takeWhile_append_dropWhile.symm;have SR:(l.drop n).dropWhile (fun s=> decide (s.2 < x))=l.drop (mc l n x):=by
   have:=congrArg (List.drop ((l.drop n).takeWhile (fun s=> decide (s.2 < x))).length) dB
   rw [List.drop_left,List.drop_drop] at this;exact this.symm
  have hne:(l.drop n).dropWhile (fun s=> decide (s.2 < x))≠[]:=by rw [SR];simp;omega
  have h1:=List.head_dropWhile_not (fun s:Int × Int=> decide (s.2 < x)) hne;have h2:((l.drop n).dropWhile (fun s=> decide (s.2 < x))).head hne=l[mc l n x]:=by
   have h4:((l.drop n).dropWhile (fun s=> decide (s.2 < x))).head? =some (l[mc l n x]):=by rw [SR,List.head?_drop];simp [h]
   rw [List.head?_eq_some_head hne] at h4;exact Option.some.inj h4
  rw [h2] at h1;simp at h1;omega
 generalize mc l n x=k at *
 by_cases hk:k < l.length
 ·rw [T6 hk];have h1:=akH hk
  constructor
  ·intro h;exact ⟨l[k],List.getElem_mem hk,by simpa using h,by omega⟩
  ·rintro ⟨s,hs,h2,h3⟩;obtain ⟨i,hi,rfl⟩:=List.getElem_of_mem hs;have aj2:¬ i < k:=fun h=> by have:=Ti i hi h;omega
   rcases Nat.lt_or_eq_of_le (show k≤i by omega) with h4 | h4
   ·have h5:=List.pairwise_iff_getElem.1 hg.2 k i hk hi h4;have eW:=hg.1 l[k] (List.getElem_mem hk)
    simp;omega
   ·subst h4;simpa using h2
 ·rw [T7 hk]
  constructor
  ·intro h;cases h
  ·rintro ⟨s,hs,h2,h3⟩;obtain ⟨i,hi,rfl⟩:=List.getElem_of_mem hs
   have:=Ti i hi (by omega)
   omega
theorem RI {b7 U:List (Int × Int)} (oV:rr b7) (gb:rr U):∀ (Fi:List Int) (x:Int) (n0 n1:Nat) (out:List (Int × Int)),
  (x::Fi).Pairwise (fun x y=> x < y)→n0≤b7.length→n1≤U.length→(∀ i (h:i < b7.length),i < n0→b7[i].2 < x)→(∀ i (h:i < U.length),i < n1→U[i].2 < x)→
  (∀ s∈b7 ++ U,(s.1≤x∨s.1∈Fi)∧(s.2 + 1≤x∨s.2 + 1∈Fi))→rr out→(∀ z∈out,z.1≤x)→
  rr (yA (fun a b=> a || b) b7 U (x::Fi) n0 n1 out)∧∀ t,lH (yA (fun a b=> a || b) b7 U (x::Fi) n0 n1 out) t↔lH out t∨(x≤t∧(lH b7 t∨lH U t))
 | [],x,n0,n1,out,_,_,_,_,_,hends,hg,_=> by
  rw [RH _ _ _ _ (by simp)];refine ⟨hg,fun t=> ⟨fun h=> .inl h,?_⟩⟩;rintro (h | ⟨h1,h2⟩)
  ·exact h
  ·exfalso
   rw [←Io] at h2;obtain ⟨s,hs,h3,h4⟩:=h2
   have:=(hends s hs).2
   simp at this;omega
 | y::r,x,n0,n1,out,hp,h0,h1,l0,l1,hends,hg,aW=> by
  obtain ⟨p1,p2⟩:=List.pairwise_cons.1 hp;obtain ⟨q1,_⟩:=List.pairwise_cons.1 p2;have Ar:=p1 y (by simp);obtain ⟨a1,a2,a3⟩:=Xb oV h0 l0;obtain ⟨b1,b2,b3⟩:=Xb gb h1 l1;have XI:∀ e,e∈y::r→y≤e:=fun e he=> by
   rcases List.mem_cons.1 he with rfl | he
   ·exact Int.le_refl _
   ·have:=q1 e he;omega
  have const:∀ (l:List (Int × Int)),(∀ s∈l,s∈b7 ++ U)→∀ t,x≤t→t≤y - 1→(lH l t↔lH l x):=by
   intro l hl t yO yP
   constructor
   ·rintro ⟨s,hs,h3,h4⟩;refine ⟨s,hs,?_,by omega⟩
    rcases (hends s (hl s hs)).1 with h5 | h5
    ·exact h5
    ·have:=XI _ h5;omega
   ·rintro ⟨s,hs,h3,h4⟩;refine ⟨s,hs,by omega,?_⟩
    rcases (hends s (hl s hs)).2 with h5 | h5
    ·omega
    ·have:=XI _ h5;omega
  have ca:=const b7 (fun s hs=> List.mem_append_left _ hs);have cb:=const U (fun s hs=> List.mem_append_right _ hs);rw [yA];have Y8:∀ s∈b7 ++ U,(s.1≤y∨s.1∈r)∧(s.2 + 1≤y∨s.2 + 1∈r):=fun s hs=> by
   obtain ⟨h3,h4⟩:=hends s hs
   constructor
   ·rcases h3 with h3 | h3
    ·exact .inl (by omega)
    ·rcases List.mem_cons.1 h3 with h5 | h5
     ·exact .inl (by omega)
     ·exact .inr h5
   ·rcases h4 with h3 | h3
    ·exact .inl (by omega)
    ·rcases List.mem_cons.1 h3 with h5 | h5
     ·exact .inl (by omega)
     ·exact .inr h5
  by_cases hin:(s4 b7 (mc b7 n0 x) x || s4 U (mc U n1 x) x)=true
  ·have Ai:lH b7 x∨lH U x:=by
    rcases Bool.or_eq_true _ _ ▸ hin with h | h
    ·exact .inl (a3.1 h)
    ·exact .inr (b3.1 h)
   obtain ⟨g1,g2,g3⟩:=W9 (s:=(x,y - 1)) hg (by simp only;omega) (fun z h=> aW z h);obtain ⟨ju,iz⟩:=RI oV gb r y _ _ (qw out (x,y - 1)) p2 a1 b1 (fun i h hi=> by have:=a2 i h hi;omega) (fun i h hi=> by have:=b2 i h hi;omega) Y8 g1 (fun z h=> by have:=g3 z h;simp only at this;omega);rw [if_pos hin];refine ⟨ju,fun t=> ?_⟩;rw [iz,g2]
   constructor
   ·rintro ((h | h) | h)
    ·exact .inl h
    ·simp only at h;refine .inr ⟨h.1,?_⟩
     rcases Ai with h5 | h5
     ·exact .inl ((ca t h.1 h.2).2 h5)
     ·exact .inr ((cb t h.1 h.2).2 h5)
    ·exact .inr ⟨by omega,h.2⟩
   ·rintro (h | h)
    ·exact .inl (.inl h)
    ·by_cases F5:y≤t
     ·exact .inr ⟨F5,h.2⟩
     ·exact .inl (.inr ⟨h.1,by simp only;omega⟩)
  ·have Ai:¬ (lH b7 x∨lH U x):=fun h=> hin (by
    rcases h with h | h
    ·rw [a3.2 h];rfl
    ·rw [b3.2 h];simp)
   obtain ⟨ju,iz⟩:=RI oV gb r y (mc b7 n0 x) (mc U n1 x) out p2 a1 b1 (fun i h hi=> by have:=a2 i h hi;omega) (fun i h hi=> by have:=b2 i h hi;omega) Y8 hg (fun z h=> by have:=aW z h;omega);rw [if_neg hin];refine ⟨ju,fun t=> ?_⟩;rw [iz]
   constructor
   ·rintro (h | h)
    ·exact .inl h
    ·exact .inr ⟨by omega,h.2⟩
   ·rintro (h | h)
    ·exact .inl h
    ·by_cases F5:y≤t
     ·exact .inr ⟨F5,h.2⟩
     ·exfalso
      apply Ai
      rcases h.2 with h5 | h5
      ·exact .inl ((ca t h.1 (by omega)).1 h5)
      ·exact .inr ((cb t h.1 (by omega)).1 h5)
theorem aoK {b7 U:List (Int × Int)} (b8:lZ b7) (ad:lZ U):tn (fun a b=> a || b) b7 U=vf (b7 ++ U) []:=by
 have oV:=Kf b8;have gb:=Kf ad;have hs:∀ s∈b7 ++ U,s.1≤s.2:=fun s h=> by
  rcases List.mem_append.1 h with h | h
  ·exact oV.1 s h
  ·exact gb.1 s h
 obtain ⟨LL,LM⟩:=abp _ (b7 ++ U) [] rfl ⟨by simp,List.Pairwise.nil⟩ hs (by simp);have TK:=aiL b7 U;unfold tn;have hmem:∀ s∈b7 ++ U,s.1∈wS b7 U∧s.2 + 1∈wS b7 U:=fun s h=> ⟨abT.2 ⟨s,h,.inl rfl⟩,abT.2 ⟨s,h,.inr rfl⟩⟩
 cases he:wS b7 U with
 | nil=>
  rw [RH _ _ _ _ (by simp)];refine R6 ⟨by simp,List.Pairwise.nil⟩ LL fun x=> ?_;rw [LM]
  constructor
  ·intro h;exact absurd h (Bw _)
  ·rintro (h | ⟨s,h1,_⟩)
   ·exact h
   ·have:=(hmem s h1).1;rw [he] at this;simp at this
 | cons x Fi=>
  rw [he] at TK hmem;obtain ⟨p1,_⟩:=List.pairwise_cons.1 TK;obtain ⟨c1,c2⟩:=RI oV gb Fi x 0 0 [] TK (Nat.zero_le _) (Nat.zero_le _) (by intro i _ h;omega) (by intro i _ h;omega) (fun s h=> by
   obtain ⟨h1,h2⟩:=hmem s h
   constructor
   ·rcases List.mem_cons.1 h1 with h3 | h3
    ·exact .inl (by omega)
    ·exact .inr h3
   ·rcases List.mem_cons.1 h2 with h3 | h3
    ·exact .inl (by omega)
    ·exact .inr h3) ⟨by simp,List.Pairwise.nil⟩ (by simp)
  refine R6 c1 LL fun t=> ?_;rw [c2,LM,Io]
  constructor
  ·rintro (h | h)
   ·exact .inl h
   ·exact .inr h.2
  ·rintro (h | h)
   ·exact .inl h
   ·refine .inr ⟨?_,h⟩;rw [←Io] at h;obtain ⟨s,h1,h2,h3⟩:=h
    rcases List.mem_cons.1 (hmem s h1).1 with h4 | h4
    ·omega
    ·have:=p1 _ h4;omega
theorem Ux:∀ (n:Nat) (a b:List (Int × Int)),a.length + b.length=n→rr a→rr b→(p9 a b=true↔∃ x,lH a x∧lH b x)
 | n,[],b,_,_,_=> by rw [p9];exact ⟨fun h=> (by cases h),fun ⟨x,h,_⟩=> absurd h (Bw x)⟩
 | n,s::r,[],_,_,_=> by rw [p9];exact ⟨fun h=> (by cases h),fun ⟨x,_,h⟩=> absurd h (Bw x)⟩
 | 0,s::r,t::ae,hn,_,_=> by simp at hn
 | n + 1,s::r,t::ae,hn,b8,ad=> by
  obtain ⟨a1,a2,a3⟩:=Fk.1 b8;obtain ⟨b1,b2,b3⟩:=Fk.1 ad;simp only [List.length_cons] at hn;rw [p9]
  by_cases h1:s.2 < t.1
  ·rw [if_pos h1,Ux n r (t::ae) (by simp only [List.length_cons];omega) a3 ad]
   constructor
   ·rintro ⟨x,hx,hy⟩;exact ⟨x,(od _ _ _).2 (.inr hx),hy⟩
   ·rintro ⟨x,hx,hy⟩
    rcases (od _ _ _).1 hx with h | h
    ·exfalso
     rcases (od _ _ _).1 hy with oW | ⟨u,cy,oW,_⟩
     ·omega
     ·have:=b2 u cy;omega
    ·exact ⟨x,h,hy⟩
  ·rw [if_neg h1]
   by_cases h2:t.2 < s.1
   ·rw [if_pos h2,Ux n (s::r) ae (by simp only [List.length_cons];omega) b8 b3]
    constructor
    ·rintro ⟨x,hx,hy⟩;exact ⟨x,hx,(od _ _ _).2 (.inr hy)⟩
    ·rintro ⟨x,hx,hy⟩
     rcases (od _ _ _).1 hy with h | h
     ·exfalso
      rcases (od _ _ _).1 hx with oW | ⟨u,cy,oW,_⟩
      ·omega
      ·have:=a2 u cy;omega
     ·exact ⟨x,hx,h⟩
   ·rw [if_neg h2];refine ⟨fun _=> ?_,fun _=> rfl⟩
    by_cases h3:s.1≤t.1
    ·exact ⟨t.1,(od _ _ _).2 (.inl ⟨h3,by omega⟩),(od _ _ _).2 (.inl ⟨by omega,b1⟩)⟩
    ·exact ⟨s.1,(od _ _ _).2 (.inl ⟨by omega,a1⟩),(od _ _ _).2 (.inl ⟨by omega,by omega⟩)⟩
mutual
def nF (x:Int):Tree→Bool
 | .node op set kids _ _ _ _ _=>
  if op=1 then set.any fun s=> decide (s.1≤x) && decide (x≤s.2)
  else if op=6 then true
  else if op=2 then wR x kids
  else if op=3∨op=10∨op=4∨op=5∨op=9 then zI x kids
  else false
def wR (x:Int):List Tree→Bool
 | []=> false
 | k::ks=> nF x k || (fA k && wR x ks)
def zI (x:Int):List Tree→Bool
 | []=> false
 | k::ks=> nF x k || zI x ks
end
mutual
def se:Tree→List Int
 | .node _ set kids _ _ _ _ _=> ld set ++ pX kids
def pX:List Tree→List Int
 | []=> []
 | k::ks=> se k ++ pX ks
end
theorem aic {k:Tree} {l:List Tree} (h:k∈l) {e:Int} (he:e∈se k):e∈pX l:=by
 induction l with
 | nil=> simp at h
 | cons x xs ih=>
  rw [pX,List.mem_append]
  rcases List.mem_cons.1 h with rfl | h
  ·exact .inl he
  ·exact .inr (ih h)
theorem JV (set:List (Int × Int)) (x:Int):(set.any fun s=> decide (s.1≤x) && decide (x≤s.2))=true↔lH set x:=by
 rw [List.any_eq_true];unfold lH
 simp
theorem ah5 {S:List (Int × Int)} (hS:rr S):∀ t:Tree,t.q7→(ow S t=true↔∃ x,lH S x∧nF x t=true):=by
 intro t
 induction t using Tree.nq with
 | h op set kids mn mx mode n neg ih=>
  intro h9;have eC:=h9.node;have lB:∀ l:List Tree,(∀ k∈l,k∈kids)→(q8 S l=true↔∃ x,lH S x∧wR x l=true):=by
   intro l
   induction l with
   | nil=> intro _;simp [q8,wR]
   | cons k ks ihl=>
    intro hl;have h1:=ih k (hl k (by simp)) (h9.dy (hl k (by simp)));have h2:=ihl fun ae hq=> hl ae (by simp [hq]);simp only [q8,wR,Bool.or_eq_true,Bool.and_eq_true];rw [h1,h2]
    constructor
    ·rintro (⟨x,a,b⟩ | ⟨c,x,a,b⟩)
     ·exact ⟨x,a,.inl b⟩
     ·exact ⟨x,a,.inr ⟨c,b⟩⟩
    ·rintro ⟨x,a,b | ⟨c,b⟩⟩
     ·exact .inl ⟨x,a,b⟩
     ·exact .inr ⟨c,x,a,b⟩
  have eY:∀ l:List Tree,(∀ k∈l,k∈kids)→(Fb S l=true↔∃ x,lH S x∧zI x l=true):=by
   intro l
   induction l with
   | nil=> intro _;simp [Fb,zI]
   | cons k ks ihl=>
    intro hl;have h1:=ih k (hl k (by simp)) (h9.dy (hl k (by simp)));have h2:=ihl fun ae hq=> hl ae (by simp [hq]);simp only [Fb,zI,Bool.or_eq_true];rw [h1,h2]
    constructor
    ·rintro (⟨x,a,b⟩ | ⟨x,a,b⟩)
     ·exact ⟨x,a,.inl b⟩
     ·exact ⟨x,a,.inr b⟩
    ·rintro ⟨x,a,b | b⟩
     ·exact .inl ⟨x,a,b⟩
     ·exact .inr ⟨x,a,b⟩
  rw [ow];simp only [nF]
  by_cases h1:op=1
  ·simp only [if_pos h1];rw [Ux _ set S rfl (Kf (eC.tx h1)) hS]
   constructor
   ·rintro ⟨x,a,b⟩;exact ⟨x,b,(JV _ _).2 a⟩
   ·rintro ⟨x,a,b⟩;exact ⟨x,(JV _ _).1 b,a⟩
  ·simp only [if_neg h1]
   by_cases eW:op=6
   ·simp only [if_pos eW]
    cases S with
    | nil=> simp [Bw]
    | cons s r=>
     have:=(Fk.1 hS).1
     simp only [List.length_cons,and_true];exact ⟨fun _=> ⟨s.1,(od _ _ _).2 (.inl ⟨Int.le_refl _,this⟩)⟩,fun _=> by simp⟩
   ·simp only [if_neg eW]
    by_cases h2:op=2
    ·simp only [if_pos h2];exact lB kids fun _ h=> h
    ·simp only [if_neg h2]
     by_cases h3:op=3∨op=10∨op=4∨op=5∨op=9
     ·simp only [if_pos h3];exact eY kids fun _ h=> h
     ·simp only [if_neg h3]
      simp
theorem abS {set:List (Int × Int)} {x y:Int} (abb:y≤x) (h:∀ e∈ld set,e≤y∨x < e):lH set y↔lH set x:=by
 have h1:∀ s∈set,(s.1≤y∨x < s.1)∧(s.2 + 1≤y∨x < s.2 + 1):=fun s hs=> ⟨h _ (List.mem_flatMap.2 ⟨s,hs,by simp⟩),h _ (List.mem_flatMap.2 ⟨s,hs,by simp⟩)⟩
 constructor
 ·rintro ⟨s,hs,a,b⟩
  have:=h1 s hs
  exact ⟨s,hs,by omega,by omega⟩
 ·rintro ⟨s,hs,a,b⟩
  have:=h1 s hs
  exact ⟨s,hs,by omega,by omega⟩
theorem ah3 {x y:Int} (abb:y≤x):∀ t:Tree,(∀ e∈se t,e≤y∨x < e)→nF y t=nF x t:=by
 intro t
 induction t using Tree.nq with
 | h op set kids mn mx mode n neg ih=>
  intro ad;have hk:∀ k∈kids,nF y k=nF x k:=fun k hk=> ih k hk fun e he=> ad e (by rw [se,List.mem_append];exact .inr (aic hk he));have lB:∀ l:List Tree,(∀ k∈l,k∈kids)→wR y l=wR x l:=by
   intro l
   induction l with
   | nil=> intro _;rfl
   | cons k ks ihl=>
    intro hl;simp only [wR];rw [hk k (hl k (by simp)),ihl fun ae hq=> hl ae (by simp [hq])]
  have eY:∀ l:List Tree,(∀ k∈l,k∈kids)→zI y l=zI x l:=by
   intro l
   induction l with
   | nil=> intro _;rfl
   | cons k ks ihl=>
    intro hl;simp only [zI];rw [hk k (hl k (by simp)),ihl fun ae hq=> hl ae (by simp [hq])]
  simp only [nF];rw [lB kids fun _ h=> h,eY kids fun _ h=> h];have hs:(set.any fun s=> decide (s.1≤y) && decide (y≤s.2))=(set.any fun s=> decide (s.1≤x) && decide (x≤s.2)):=by
   rw [Bool.eq_iff_iff,JV,JV];exact abS abb fun e he=> ad e (by rw [se,List.mem_append];exact .inl he)
  rw [hs]
theorem aje (l:List Int) (x:Int) (h:∃ e∈l,e≤x):∃ y∈l,y≤x∧∀ e∈l,e≤y∨x < e:=by
 induction l with
 | nil=> obtain ⟨e,he,_⟩:=h;simp at he
 | cons a r ih=>
  by_cases aO:∃ e∈r,e≤x
  ·obtain ⟨y,hy,h1,h2⟩:=ih aO
   by_cases b8:a≤x∧y < a
   ·refine ⟨a,by simp,b8.1,fun e he=> ?_⟩
    rcases List.mem_cons.1 he with rfl | he
    ·exact .inl (Int.le_refl _)
    ·rcases h2 e he with h3 | h3
     ·exact .inl (by omega)
     ·exact .inr h3
   ·refine ⟨y,by simp [hy],h1,fun e he=> ?_⟩
    rcases List.mem_cons.1 he with rfl | he
    ·by_cases h3:e≤x
     ·exact .inl (by omega)
     ·exact .inr (by omega)
    ·exact h2 e he
  ·obtain ⟨e,he,h1⟩:=h
   rcases List.mem_cons.1 he with rfl | he
   ·refine ⟨e,by simp,h1,fun ae hq=> ?_⟩
    rcases List.mem_cons.1 hq with rfl | hq
    ·exact .inl (Int.le_refl _)
    ·exact .inr (by rcases Int.lt_or_le x ae with h3 | h3;exact h3;exact absurd ⟨ae,hq,h3⟩ aO)
   ·exact absurd ⟨e,he,h1⟩ aO
def Ho (s t:Tree):Bool:=(se s ++ se t).all fun e=> !(nF e s && nF e t)
theorem ahR {s t:Tree} (ds:s.op=1) (hs:lZ s.set) (ht:t.q7):Ho s t=!ow s.set t:=by
 have hg:=Kf hs;have hX:∀ x,nF x s=true↔lH s.set x:=by
  intro x
  cases s with
  | node op set kids mn mx mode n neg=>
   have ds:op=1:=ds;simp only [nF,if_pos ds];exact JV _ _
 have ad:∀ e∈ld s.set,e∈se s:=by
  intro e he
  cases s with
  | node op set kids mn mx mode n neg=> rw [se,List.mem_append];exact .inl he
 have hi:=ah5 hg t ht;rw [Bool.eq_iff_iff];unfold Ho;rw [List.all_eq_true]
 constructor
 ·intro h
  cases hq:ow s.set t with
  | false=> rfl
  | true=>
   exfalso
   obtain ⟨x,h1,h2⟩:=hi.1 hq;obtain ⟨u,cy,h3,h4⟩:=h1;obtain ⟨y,hy,h5,eW⟩:=aje (se s ++ se t) x ⟨u.1,List.mem_append_left _ (ad _ (List.mem_flatMap.2 ⟨u,cy,by simp⟩)),h3⟩;have h7:=h y hy;have ix:nF y s=true:=(hX y).2 ((abS h5 fun e he=> eW e (List.mem_append_left _ (ad e he))).2 ⟨u,cy,h3,h4⟩);have lg:nF y t=true:=by rw [ah3 h5 t fun e he=> eW e (List.mem_append_right _ he)];exact h2
   rw [ix,lg] at h7
   cases h7
 ·intro h e _
  cases h1:nF e s with
  | false=> rfl
  | true=>
   cases h2:nF e t with
   | false=> rfl
   | true=>
    have:=hi.2 ⟨e,(hX e).1 h1,h2⟩
    rw [this] at h
    cases h
theorem ah2 (x:Int) (l:List Tree):zI x l=l.any (nF x):=by
 induction l with
 | nil=> rfl
 | cons y r ih=> simp only [zI,List.any_cons,ih]
theorem acR (x:Int) (m:MRe):∀ (w:World),m.aK w→m.ab.q7→
  Calls Tryz.prog 135 #[m.val,H J x] w fun e w'=> e=.returned (F (nF x m.ab))∧I [] w w':=by
 induction m using MRe.nq with
 | h op sa sc set ka kc kids mn mx mode n neg ih=>
  intro w aj aJ;obtain ⟨R,aC⟩:∃ R,R=nF x (MRe.ab (.node op sa sc set ka kc kids mn mx mode n neg)):=⟨_,rfl⟩;rw [←aC];replace aC:R=if op=1 then set.any fun s=> decide (s.1≤x) && decide (x≤s.2) else if op=6 then true else if op=2 then wR x (MRe.al kids) else if op=3∨op=10∨op=4∨op=5∨op=9 then zI x (MRe.al kids) else false:=by rw [aC];simp only [MRe.ab,nF]
  have ff:=C (fun k (hk:k∈kids) W (h:I [] w W)=> ih k hk W ((aj.dy hk).ah h) (IE aJ hk));have hK:=C (fun k (hk:k∈kids) W (h:I [] w W)=> CR k W ((aj.dy hk).ah h) (IE aJ hk));have hcap:=aj.ch.cap;have fc:=aj.ch.le;have TI:=aj.nV.cap;have akE:=aj.nV.le;unfold maxLen at hcap TI;have b6:=C aj.kids;have fp:=C aj.nV;simp only [MRe.val];obtain ⟨U,aA,ar,c1,c2,an,av,ay,ax,az,dw,aB,aZ⟩:=tD w op sa sc set ka kc kids mn mx mode n neg;clear ih aj aJ
  by_cases h1:op=1
  ·rw [if_pos h1] at aC;subst h1;have dW:=C aC;clear aC;go_enter Tryz.func135,Tryz.ntmps135
   go_upto_region 1 with fail
   rw [←dw.o,←aB.o];go_wp2
   go_loopw [5] (fun i wr=> ∃ k:Nat,k≤set.length∧i=H J k∧(∀ s∈set.take k,(decide (s.1≤x) && decide (x≤s.2))=false)∧aA=wr) (fun i _=> set.length - (intOf i).toNat)
   case atStart=> exact ⟨0,Nat.zero_le _,rfl,by simp,rfl⟩
   case round=>
    obtain ⟨k,gC,rfl,fB,rfl⟩:=hrel;have eg:=C fB;clear fB
    by_cases aQ:k < set.length
    ·obtain ⟨b,off,rfl,ad,hx⟩:=(fp.o.ah aZ.o).at_ (by omega);obtain ⟨bg,aV⟩:=hx k aQ;have hn:(decide (set[k].1≤x) && decide (x≤set[k].2))=false→∀ s∈set.take (k + 1),(decide (s.1≤x) && decide (x≤s.2))=false:=fun h s hs=> by
      rw [List.take_succ_eq_append_getElem aQ] at hs
      rcases List.mem_append.1 hs with hs | hs
      ·exact eg.o s hs
      ·simp only [List.mem_cons,List.not_mem_nil,or_false] at hs;subst hs;exact h
     have hf:(decide (set[k].1≤x) && decide (x≤set[k].2))=true→R=true:=fun h=> by rw [dW.o];exact List.any_eq_true.2 ⟨_,List.getElem_mem aQ,h⟩
     generalize set[k]=s at *
     obtain ⟨lo,hi⟩:=s;simp only at bg aV;have dP:=C hn;have gj:=C hf;clear hn hf hx
     by_cases a1:lo≤x
     ·by_cases a2:x≤hi
      ·have aD:=C (gj.o (by simp [a1,a2]));go_wp2;go_ret;exact ⟨by rw [aD.o];rfl,aZ.o⟩
      ·have ey:=C (dP.o (by simp [a2]));have W5:hi < x:=by omega
       go_wp2;go_roundw
       case rel=> exact ⟨k + 1,by omega,by go_num,ey.o,trivial⟩
       case measure=> simp [intOf];omega
     ·have ey:=C (dP.o (by simp [a1]));have W4:x < lo:=by omega
      go_wp2;go_roundw
      case rel=> exact ⟨k + 1,by omega,by go_num,ey.o,trivial⟩
      case measure=> simp [intOf];omega
    ·obtain rfl:k=set.length:=by omega
     have aD:=C (show R=false by
      rw [dW.o];have h:=eg.o;rw [List.take_length] at h;exact List.any_eq_false.2 fun s hs=> by rw [h s hs];simp)
     go_wp2;go_ret;exact ⟨by rw [aD.o];rfl,aZ.o⟩
  ·rw [if_neg h1] at aC
   by_cases eW:op=6
   ·rw [if_pos eW] at aC;subst eW;have aD:=C aC;clear aC h1;go_enter Tryz.func135,Tryz.ntmps135
    go_upto_region 1 with fail
    rw [←dw.o,←aB.o];go_wp2;go_ret;exact ⟨by rw [aD.o];rfl,aZ.o⟩
   ·rw [if_neg eW] at aC
    by_cases h2:op=2
    ·rw [if_pos h2] at aC;subst h2;have dW:=C aC;clear aC h1 eW;go_enter Tryz.func135,Tryz.ntmps135
     go_upto_region 1 with fail
     rw [←dw.o,←aB.o];go_wp2
     go_loopw [6] (fun i wr=> ∃ k:Nat,k≤kids.length∧i=H J k∧wR x ((MRe.al kids).drop k)=wR x (MRe.al kids)∧I [] aA wr) (fun i _=> kids.length - (intOf i).toNat)
     case atStart=> exact ⟨0,Nat.zero_le _,rfl,rfl,I.refl _ _⟩
     case round=>
      obtain ⟨k,gC,rfl,fB,ck⟩:=hrel;have cX:=C ck;have dp:=ck.c c2;clear ck ar c1 c2 an av ay ax az
      by_cases aQ:k < kids.length
      ·obtain ⟨b,off,rfl,ad,hx⟩:=(b6.o.ah (aZ.o.trans cX.o)).ch.dy (by omega);have eD:=hx k aQ;have bI:=C (ff.o kids[k] (List.getElem_mem aQ) wr (aZ.o.trans cX.o));have C5:=C (hK.o kids[k] (List.getElem_mem aQ));rw [wt kids k aQ,wR] at fB
       generalize kids[k]=m at *
       obtain ⟨ae,hq⟩:∃ ae,ae=nF x m.ab:=⟨_,rfl⟩;obtain ⟨z,aW⟩:∃ z,z=fA m.ab:=⟨_,rfl⟩;rw [←hq] at bI fB;rw [←aW] at fB;simp only [←aW] at C5;have eg:=C fB;obtain ⟨op1,aM,aN,set1,aS,kc1,aq,mn1,aI,mode1,n1,aL⟩:=m;have g:=eD.node;obtain ⟨bg,aV,a6,bl,bq,bE,bF,bH⟩:=id g;simp only [MRe.val] at bI C5;clear g eD hx hq aW fB;go_wp2_with fail
       refine Calls.mono bI.o ?_;rintro e w3 ⟨rfl,aP⟩;have aR:=C (cX.o.trans aP);have z2:=aP.c dp;obtain ⟨ep,aJ,cP,eM,eF,eN,eO,eP⟩:=aP.au bg aV a6 bl bq bE bF bH;clear aP dp bg aV a6 bl bq bE bF bH
       cases ae with
       | true=>
        have aD:=C (show R=true by rw [dW.o,←eg.o];rfl);go_wp2;go_ret;exact ⟨by rw [aD.o];rfl,aZ.o.trans aR.o⟩
       | false=>
        go_wp2_with fail
        refine Calls.mono (C5.o _ (aZ.o.trans aR.o)) ?_;rintro e w4 ⟨rfl,bc⟩;have cl:=C (aR.o.trans bc);clear bc
        cases z with
        | true=>
         have k8:=C (show wR x ((MRe.al kids).drop (k + 1))=wR x (MRe.al kids) from eg.o);go_wp2;go_roundw
         case rel=> exact ⟨k + 1,by omega,by go_num,k8.o,cl.o⟩
         case measure=> simp [intOf];omega
        | false=>
         have aD:=C (show R=false by rw [dW.o,←eg.o];rfl);go_wp2;go_ret;exact ⟨by rw [aD.o];rfl,aZ.o.trans cl.o⟩
      ·obtain rfl:k=kids.length:=by omega
       have aD:=C (show R=false by rw [dW.o,←fB,List.drop_of_length_le (by rw [MRe.ee];exact Nat.le_refl _)];rfl);clear fB;go_wp2;go_ret;exact ⟨by rw [aD.o];rfl,aZ.o.trans cX.o⟩
    ·rw [if_neg h2] at aC
     by_cases eY:op=3∨op=10∨op=4∨op=5∨op=9
     ·rw [if_pos eY,ah2] at aC;have dW:=C aC;clear aC h1 h2 eW
      rcases eY with rfl | rfl | rfl | rfl | rfl
      all_goals
       go_enter Tryz.func135,Tryz.ntmps135
       go_upto_region 1 with fail
       rw [←dw.o,←aB.o];go_wp2
       go_loopw [7] (fun i wr=> ∃ k:Nat,k≤kids.length∧i=H J k∧(∀ y∈(MRe.al kids).take k,nF x y=false)∧I [] aA wr) (fun i _=> kids.length - (intOf i).toNat)
       case atStart=> exact ⟨0,Nat.zero_le _,rfl,by simp,I.refl _ _⟩
       case round=>
        obtain ⟨k,gC,rfl,fB,ck⟩:=hrel;have eg:=C fB;have cX:=C ck;have dp:=ck.c c2;clear fB ck ar c1 c2 an av ay ax az
        by_cases aQ:k < kids.length
        ·obtain ⟨b,off,rfl,ad,hx⟩:=(b6.o.ah (aZ.o.trans cX.o)).ch.dy (by omega);have eD:=hx k aQ;have bI:=C (ff.o kids[k] (List.getElem_mem aQ) wr (aZ.o.trans cX.o));have i5:k < (MRe.al kids).length:=by rw [MRe.ee];exact aQ
         have hn:=fun h=> Pu (p:=(nF x)) i5 eg.o h;have hf:=fun h=> Xf (p:=(nF x)) i5 h;rw [kQ kids k aQ] at hn hf;have dP:=C hn;have gj:=C hf
         generalize kids[k]=m at *
         obtain ⟨ae,hq⟩:∃ ae,ae=(nF x) m.ab:=⟨_,rfl⟩;rw [←hq] at bI dP gj;obtain ⟨op1,aM,aN,set1,aS,kc1,aq,mn1,aI,mode1,n1,aL⟩:=m;have g:=eD.node;obtain ⟨bg,aV,a6,bl,bq,bE,bF,bH⟩:=id g;simp only [MRe.val] at bI;clear g eD hx hq hn hf;go_wp2_with fail
         refine Calls.mono bI.o ?_;rintro e w3 ⟨rfl,aP⟩;have aR:=C (cX.o.trans aP);clear aP
         cases ae with
         | false=>
          have k8:=C (dP.o rfl);go_wp2;go_roundw
          case rel=> exact ⟨k + 1,by omega,by go_num,k8.o,aR.o⟩
          case measure=> simp [intOf];omega
         | true=>
          have sA:=C (gj.o rfl);go_wp2;go_ret;exact ⟨by rw [dW.o,sA.o];rfl,aZ.o.trans aR.o⟩
        ·obtain rfl:k=kids.length:=by omega
         have h0:=Xe (p:=(nF x)) (l:=MRe.al kids) (by rw [MRe.ee];exact eg.o);have ny:=C h0;clear h0;go_wp2;go_ret;exact ⟨by rw [dW.o,ny.o];rfl,aZ.o.trans cX.o⟩
     ·rw [if_neg eY] at aC;have aD:=C aC;have h3:¬ op=3:=fun h=> eY (.inl h);have pZ:¬ op=10:=fun h=> eY (.inr (.inl h));have h4:¬ op=4:=fun h=> eY (.inr (.inr (.inl h)));have h5:¬ op=5:=fun h=> eY (.inr (.inr (.inr (.inl h))));have lg:¬ op=9:=fun h=> eY (.inr (.inr (.inr (.inr h))));have q1:(op==1)=false:=by simpa using h1
      have kA:(op==6)=false:=by simpa using eW
      have q2:(op==2)=false:=by simpa using h2
      have kr:(op==3)=false:=by simpa using h3
      have amE:(op==10)=false:=by simpa using pZ
      have ml:(op==4)=false:=by simpa using h4
      have kK:(op==5)=false:=by simpa using h5
      have Iy:(op==9)=false:=by simpa using lg
      clear aC eY;go_enter Tryz.func135,Tryz.ntmps135
      go_upto_region 1 with fail
      rw [←dw.o,←aB.o];go_wp2;go_ret;exact ⟨by rw [aD.o];rfl,aZ.o⟩
def ags (w:World) (xs:List Int) (e:Ending) (w':World):Prop:=
 ∃ a c,e=.returned (de a xs.length c)∧cr w' 3 1 a xs.length c (xs.map (H J))∧I [] w w'∧∀ g,a=some g→w.heap.size≤g
theorem RB (t:Tree):(se t).length≤2 * t.bm:=by
 induction t using Tree.nq with
 | h op set kids mn mx mode n neg ih=>
  have rE:∀ l:List Tree,(∀ k∈l,k∈kids)→(pX l).length≤2 * Tree.ed l:=by
   intro l
   induction l with
   | nil=> intro _;simp [pX,Tree.ed]
   | cons k ks ihl=>
    intro hl;have h1:=ih k (hl k (by simp));have h2:=ihl fun ae hq=> hl ae (by simp [hq]);simp only [pX,Tree.ed,List.length_append];omega
  have:=rE kids fun _ h=> h
  simp only [se,Tree.bm,List.length_append,Fj];omega
theorem aid (l:List Tree) (k:Nat) (h:k < l.length):pX (l.take (k + 1))=pX (l.take k) ++ se l[k]:=by
 rw [List.take_succ_eq_append_getElem h]
 generalize l.take k=a
 induction a with
 | nil=> simp [pX]
 | cons x r ih=> simp only [List.cons_append,pX,ih,List.append_assoc]
theorem aib (l:List Tree) (k:Nat):(pX (l.take k)).length≤2 * Tree.ed l:=by
 have h1:∀ a:List Tree,(pX a).length≤2 * Tree.ed a:=by
  intro a
  induction a with
  | nil=> simp [pX,Tree.ed]
  | cons x r ih=>
   have:=RB x
   simp only [pX,Tree.ed,List.length_append];omega
 have h2:=h1 (l.take k);have h3:=Tree.Hs l k;omega
theorem acS (m:MRe):∀ (w:World),m.aK w→m.ab.q7→m.ab.bm≤100000→
  Calls Tryz.prog 134 #[m.val] w (ags w (se m.ab)):=by
 induction m using MRe.nq with
 | h op sa sc set ka kc kids mn mx mode n neg ih=>
  intro w aj aJ ad;obtain ⟨gq,hi,dQ,fj,eI⟩:=info_parts F9;have gH:=C hi;have gI:=C dQ;have gJ:=C fj;have gK:=C eI;clear hi dQ fj eI;obtain ⟨R,aC⟩:∃ R,R=se (MRe.ab (.node op sa sc set ka kc kids mn mx mode n neg)):=⟨_,rfl⟩;rw [←aC];replace aC:R=ld set ++ pX (MRe.al kids):=by rw [aC];simp only [MRe.ab,se]
  have eC:=U4 aJ;have dd:∀ i (h:i < set.length),0≤set[i].1∧set[i].1≤set[i].2∧set[i].2≤1114111:=by
   by_cases h1:op=1
   ·exact (eC.tx h1).Fe
   ·intro i h;rw [eC.HU h1] at h;simp at h
  obtain ⟨hbl,Cq,hbk⟩:=lG ad;have lk:set.length + Tree.ed (MRe.al kids)≤100000:=by
   have:1 + set.length + Tree.ed (MRe.al kids)≤100000:=ad
   omega
  have ff:=C (fun k (hk:k∈kids) W (h:I [] w W)=> ih k hk W ((aj.dy hk).ah h) (IE aJ hk) (hbk k hk));have kS:=C (fun k=> aib (MRe.al kids) k);have hcap:=aj.ch.cap;have fc:=aj.ch.le;have TI:=aj.nV.cap;have akE:=aj.nV.le;unfold maxLen at hcap TI;have b6:=C aj.kids;have fp:=C aj.nV;have hU:=C dd;have dW:=C aC;simp only [MRe.val];obtain ⟨U,aA,ar,c1,c2,an,av,ay,ax,az,dw,aB,aZ⟩:=tD w op sa sc set ka kc kids mn mx mode n neg;clear ih aj aJ eC dd hbk ad aC;go_enter Tryz.func134,Tryz.ntmps134
  go_upto_region 1 with fail
  rw [←dw.o,←aB.o];go_wp2
  go_loopw [3,4] (fun v i wr=> ∃ (k:Nat) (a:Option Nat) (c:Nat),k≤set.length∧i=H J k∧v=de a (2 * k) c∧cr wr 3 1 a (2 * k) c ((ld (set.take k)).map (H J))∧I [] aA wr∧∀ g,a=some g→aA.heap.size≤g) (fun _ i _=> set.length - (intOf i).toNat)
  case atStart=> exact ⟨0,none,0,Nat.zero_le _,rfl,rfl,cr.nil _ _ _,I.refl _ _,by simp⟩
  case round=>
   obtain ⟨k,a,c,gC,rfl,rfl,dd,ck,hga⟩:=hrel;have qp:=C dd;have cX:=C ck;have nj:=C hga;obtain ⟨bK,d1,d2,bL,bO,bT,bU,bV⟩:=ck.au ar c1 c2 an av ay ax az;clear dd ck hga
   by_cases aQ:k < set.length
   ·obtain ⟨b,off,xQ,j6,hx⟩:=(fp.o.ah (aZ.o.trans cX.o)).at_ (by omega)
    cases xQ
    obtain ⟨bg,aV⟩:=hx k aQ;obtain ⟨cR,eH,iV⟩:=hU.o k aQ;have sY:set.take (k + 1)=set.take k ++ [set[k]]:=List.take_succ_eq_append_getElem aQ
    generalize set[k]=s at *
    obtain ⟨lo,hi⟩:=s;simp only at bg aV cR eH iV;have KX:ld (set.take (k + 1))=ld (set.take k) ++ [lo,hi + 1]:=by rw [sY,XC];rfl
    have I7:=C KX;have Cv:(k:Int) < (set.length:Int):=by omega
    have je:(0:Int)≤(k:Int):=by omega
    have mN:IntKind.i64.wrap (hi + 1)=hi + 1:=IntWalk.i64_in _ (by omega);clear hx sY KX;simp only [de];go_wp2;refine rg (S:=fun w'=> w'.cell? ⟨U,1,none⟩=some (M (some ⟨b,off,none⟩) set.length sc)∧w'.cell? ⟨b,off + k * 2,none⟩=some (H J lo)∧w'.cell? ⟨b,off + k * 2 + 1,none⟩=some (H J hi)) (fun _ k=> ⟨k.c d1,k.c bg,k.c aV⟩) fun bM aF=> ?_;refine ag 0 ?_;refine ag 1 ?_;refine ag 2 ?_;refine ag 3 ?_;refine ag 4 ?_;refine ag 5 ?_;refine ag 6 ?_;refine ag 7 ?_;refine ag 8 ?_;refine ag 9 ?_;refine ag 10 ?_;refine ag 11 ?_;refine ag 12 ?_;refine ag 13 ?_;refine bh 14 fun ai af=> ?_;go_simp;have er:=C (((I.refl [] wr).drew).alloc (.cells #[H J lo,H J (hi + 1)] 3));refine af.out _ _ (bM.o _ er.o) fun aF=> ?_;clear af ai;try go_frame
    refine bh 15 fun ai af=> ?_;refine wh (.tmp 13) (.tmp 27) 22 rfl 3 gq _ 1 8 Tryz.underlying22 gH.o gI.o gJ.o gK.o rfl (by decide) a (2 * k) c _ rfl (qp.o.ah er.o (by simp)) (some ⟨wr.heap.size,0,none⟩) 2 2 [H J lo,H J (hi + 1)] rfl rfl (fun _=> ⟨_,rfl,wa wr.drew [H J lo,H J (hi + 1)] 3⟩) (by intro u cy;simp at cy;rcases cy with rfl | rfl <;> rfl) (by omega) (by omega) ?_;intro a2 c2 w2 Lz hk2 m4;have r8:=C Lz;have aU:=C (show I [] aA w2 from (cX.o.trans er.o).cn hk2 (by intro x hx;simp at hx;exact .inr (nj.o x hx)));have gA:∀ g,a=some g→g ∉ [U]∧g ∉ [b]:=fun g hg=> by
     have h1:=nj.o g hg;have h2:b < aA.heap.size:=by
      obtain ⟨iw,off',aj8,ajK,_⟩:=(fp.o.ah aZ.o).at_ (by omega)
      cases aj8;exact ajK
     have h3:U < aA.heap.size:=by rw [dw.o,aB.o];simp
     simp;omega
    have jE:=C gA;have Mt:=C (show ∀ g,a2=some g→aA.heap.size≤g by
     intro g hg
     rcases m4 with h | ⟨hv,h,h2⟩
     ·exact nj.o g (by rw [←h,hg])
     ·rw [hg] at h;cases h;have:=cX.o.size;simp at h2;omega)
    have q1:=hk2.cell (er.o.c d1) (by simp;intro h;have:=(jE.o _ h).1;simp at this);have q2:=hk2.cell (er.o.c bg) (by simp;intro h;have:=(jE.o _ h).2;simp at this);have kr:=hk2.cell (er.o.c aV) (by simp;intro h;have:=(jE.o _ h).2;simp at this);clear Lz hk2 m4 gA;refine af.out _ _ (⟨q1,q2,kr⟩) (fun aF=> ?_);clear af ai;try go_frame
    refine ag 16 ?_;refine dR ?_;clear q1 q2 kr bg aV bK d1 d2 bL bO bT bU bV aF;simp only [de];go_wp2;go_roundw
    case rel=> exact ⟨k + 1,a2,c2,by omega,by go_num,rfl,by rw [I7.o,List.map_append];exact r8.o,aU.o,Mt.o⟩
    case measure=> simp [intOf];omega
   ·obtain rfl:k=set.length:=by omega
    rw [List.take_length] at qp;simp only [de];go_wp2
    go_loopw [3,5] (fun v i qU=> ∃ (k:Nat) (a:Option Nat) (c:Nat),k≤kids.length∧i=H J k∧v=de a (ld set ++ pX ((MRe.al kids).take k)).length c∧cr qU 3 1 a (ld set ++ pX ((MRe.al kids).take k)).length c ((ld set ++ pX ((MRe.al kids).take k)).map (H J))∧I [] aA qU∧∀ g,a=some g→aA.heap.size≤g) (fun _ i _=> kids.length - (intOf i).toNat)
    case atStart=> exact ⟨0,a,c,Nat.zero_le _,rfl,by rw [List.take_zero,pX,List.append_nil,Fj];rfl,by rw [List.take_zero,pX,List.append_nil,Fj];exact qp.o,cX.o,nj.o⟩
    case round=>
     clear bK d1 d2 bL bO bT bU bV qp cX nj;obtain ⟨k,a,c,gC,rfl,rfl,dd,ck,hga⟩:=hrel;have qp:=C dd;have cX:=C ck;have nj:=C hga;obtain ⟨bK,d1,d2,bL,bO,bT,bU,bV⟩:=ck.au ar c1 c2 an av ay ax az;clear dd ck hga
     by_cases aQ:k < kids.length
     ·obtain ⟨b,off,xQ,j6,hx⟩:=(b6.o.ah (aZ.o.trans cX.o)).ch.dy (by omega)
      cases xQ
      have eD:=hx k aQ;have bI:=C (ff.o kids[k] (List.getElem_mem aQ) wr (aZ.o.trans cX.o));have i5:k < (MRe.al kids).length:=by rw [MRe.ee];exact aQ
      have DI:=aid (MRe.al kids) k i5;have yH:=kS.o (k + 1);rw [DI] at yH;rw [kQ kids k aQ] at DI yH
      generalize kids[k]=m at *
      obtain ⟨ae,hq⟩:∃ ae,ae=se m.ab:=⟨_,rfl⟩;rw [←hq] at bI DI yH;obtain ⟨P,gm⟩:∃ P,P=ld set ++ pX ((MRe.al kids).take k):=⟨_,rfl⟩;have Su:ld set ++ pX ((MRe.al kids).take (k + 1))=P ++ ae:=by rw [DI,gm,List.append_assoc]
      have aqg:P.length + ae.length≤200000:=by
       rw [gm];simp only [List.length_append,Fj] at yH ⊢;omega
      rw [←gm] at qp ⊢;have A1:=C Su;obtain ⟨op1,aM,aN,set1,aS,kc1,aq,mn1,aI,mode1,n1,aL⟩:=m;have g:=eD.node;obtain ⟨bg,aV,a6,bl,bq,bE,bF,bH⟩:=id g;simp only [MRe.val] at bI;clear g eD hx hq gm Su DI yH;simp only [de];go_wp2_with fail
      refine Calls.mono bI.o ?_;rintro e w3 ⟨a3,an,rfl,kW,aP,il⟩;have E2:=C kW;have hL:=C (qp.o.ah aP (by simp));have aR:=C (cX.o.trans aP);clear kW aP il;simp only [de]
      go_wp2_with (at_builtin;refine tF rfl (.tmp 36) (.tmp 42) 22 rfl 3 gq _ 1 8 Tryz.underlying22 gH.o gI.o gJ.o gK.o rfl (by decide) a P.length c _ rfl hL.o (a3.map fun g=> ⟨g,0,none⟩) ae.length an (ae.map (H J)) rfl (by simp) E2.o.src (CF ae) (by omega) (by omega) ?hk)
      case hk=>
       intro a4 av w4 lp bc yE;rw [←List.map_append] at lp;have zD:=C lp;have cl:=C (show I [] aA w4 from aR.o.cn bc (by intro x hx;simp at hx;exact .inr (nj.o x hx)));have EA:=C (show ∀ g,a4=some g→aA.heap.size≤g by
        intro g hg
        rcases yE with h | ⟨hv,h,h2⟩
        ·exact nj.o g (by rw [←h,hg])
        ·rw [hg] at h;cases h;have:=aR.o.size;omega)
       clear lp bc yE;simp only [de];go_wp2;go_roundw
       case rel=> exact ⟨k + 1,a4,av,by omega,by go_num,by rw [A1.o,List.length_append],by rw [A1.o,List.length_append];exact zD.o,cl.o,EA.o⟩
       case measure=> simp [intOf];omega
     ·obtain rfl:k=kids.length:=by omega
      have Yx:ld set ++ pX ((MRe.al kids).take kids.length)=R:=by
       rw [dW.o,List.take_of_length_le (by rw [MRe.ee];exact Nat.le_refl _)]
      rw [Yx] at qp ⊢;clear Yx;simp only [de];go_wp2;go_ret;exact ⟨a,c,rfl,qp.o,aZ.o.trans cX.o,fun g hg=> Nat.le_trans aZ.o.size (nj.o g hg)⟩
end Go.Proofs.YtjnlkjlbejelgaaGreat
