/- Part 21 of the proof. No condition: every lemma says its own. -/
import Derived.Test.YtjnlkjlbejelgaaGreatQan
import Derived.Test.YtjnlkjlbejelgaaGreatQah
import Derived.Test.YtjnlkjlbejelgaaGreatQat
namespace Go.Proofs.YtjnlkjlbejelgaaGreat
open Go.RowKit
open Go.Value renaming int→H,slice→M,bool→F
open Go.IntKind renaming i64→J
set_option maxRecDepth 100000
set_option maxHeartbeats 16000000
def memS (l:List (Int × Int)) (x:Int):Prop:=∃ s∈l,s.1≤x∧x≤s.2
def Gap (l:List (Int × Int)):Prop:=(∀ s∈l,s.1≤s.2)∧l.Pairwise fun s t=> s.2 + 2≤t.1
theorem gap_of_ok:∀ {l:List (Int × Int)},SpansOK l→Gap l
 | [],_=> ⟨by simp,List.Pairwise.nil⟩
 | [s],h=> ⟨by intro t ht;simp at ht;subst ht;exact h.2.1,by simp⟩
 | s::t::r,h=> by
  obtain ⟨h0,h1,h2,h3⟩:=h;have ih:=gap_of_ok (l:=t::r) h3;refine ⟨fun x hx=> ?_,List.pairwise_cons.2 ⟨fun x hx=> ?_,ih.2⟩⟩
  ·rcases List.mem_cons.1 hx with rfl | hx
   ·exact h1
   ·exact ih.1 x hx
  ·rcases List.mem_cons.1 hx with rfl | hx
   ·exact h2
   ·have h4:=(List.pairwise_cons.1 ih.2).1 x hx;have h5:=ih.1 t (by simp);omega
theorem memS_nil (x:Int):¬ memS [] x:=by rintro ⟨s,hs,_⟩;simp at hs
theorem memS_cons (s:Int × Int) (l:List (Int × Int)) (x:Int):memS (s::l) x↔(s.1≤x∧x≤s.2)∨memS l x:=by
 unfold memS
 constructor
 ·rintro ⟨t,ht,h⟩
  rcases List.mem_cons.1 ht with rfl | ht
  ·exact .inl h
  ·exact .inr ⟨t,ht,h⟩
 ·rintro (h | ⟨t,ht,h⟩)
  ·exact ⟨s,by simp,h⟩
  ·exact ⟨t,by simp [ht],h⟩
theorem memS_append (a b:List (Int × Int)) (x:Int):memS (a ++ b) x↔memS a x∨memS b x:=by
 induction a with
 | nil=> simp [memS_nil]
 | cons s r ih=> rw [List.cons_append,memS_cons,memS_cons,ih,or_assoc]
theorem gap_cons {s:Int × Int} {l:List (Int × Int)}:Gap (s::l)↔s.1≤s.2∧(∀ t∈l,s.2 + 2≤t.1)∧Gap l:=by
 unfold Gap;rw [List.pairwise_cons]
 constructor
 ·rintro ⟨h1,h2,h3⟩;exact ⟨h1 s (by simp),h2,fun t ht=> h1 t (by simp [ht]),h3⟩
 ·rintro ⟨h1,h2,h3,h4⟩;refine ⟨fun t ht=> ?_,h2,h4⟩
  rcases List.mem_cons.1 ht with rfl | ht
  ·exact h1
  ·exact h3 t ht
theorem gap_snoc {l:List (Int × Int)} {s:Int × Int}:Gap (l ++ [s])↔Gap l∧s.1≤s.2∧∀ t∈l,t.2 + 2≤s.1:=by
 unfold Gap;rw [List.pairwise_append]
 constructor
 ·rintro ⟨h1,h2,_,h3⟩;exact ⟨⟨fun t ht=> h1 t (by simp [ht]),h2⟩,h1 s (by simp),fun t ht=> h3 t ht s (by simp)⟩
 ·rintro ⟨⟨h1,h2⟩,h3,h4⟩;refine ⟨fun t ht=> ?_,h2,by simp,fun a ha b hb=> ?_⟩
  ·rcases List.mem_append.1 ht with ht | ht
   ·exact h1 t ht
   ·simp at ht;subst ht;exact h3
  ·simp at hb;subst hb;exact h4 a ha
theorem gap_unique:∀ {l m:List (Int × Int)},Gap l→Gap m→(∀ x,memS l x↔memS m x)→l=m
 | [],[],_,_,_=> rfl
 | [],t::q,_,hm,h=> by
  have h1:=(gap_cons.1 hm).1;exact absurd ((h t.1).2 ((memS_cons t q t.1).2 (.inl ⟨Int.le_refl _,h1⟩))) (memS_nil _)
 | s::r,[],hl,_,h=> by
  have h1:=(gap_cons.1 hl).1;exact absurd ((h s.1).1 ((memS_cons s r s.1).2 (.inl ⟨Int.le_refl _,h1⟩))) (memS_nil _)
 | s::r,t::q,hl,hm,h=> by
  obtain ⟨a1,a2,a3⟩:=gap_cons.1 hl;obtain ⟨b1,b2,b3⟩:=gap_cons.1 hm;have low:∀ x,memS r x→s.2 + 2≤x:=by rintro x ⟨u,hu,h1,_⟩;have:=a2 u hu;omega
  have low':∀ x,memS q x→t.2 + 2≤x:=by rintro x ⟨u,hu,h1,_⟩;have:=b2 u hu;omega
  have e1:s.1=t.1:=by
   have h1:=(h s.1).1 ((memS_cons s r s.1).2 (.inl ⟨Int.le_refl _,a1⟩));have h2:=(h t.1).2 ((memS_cons t q t.1).2 (.inl ⟨Int.le_refl _,b1⟩));rw [memS_cons] at h1 h2
   rcases h1 with h1 | h1
   ·rcases h2 with h2 | h2
    ·omega
    ·have:=low _ h2;omega
   ·have:=low' _ h1
    rcases h2 with h2 | h2
    ·omega
    ·have:=low _ h2;omega
  have e2:s.2=t.2:=by
   rcases Int.lt_trichotomy s.2 t.2 with hc | hc | hc
   ·have h1:=(h (s.2 + 1)).2 ((memS_cons t q _).2 (.inl ⟨by omega,by omega⟩));rw [memS_cons] at h1
    rcases h1 with h1 | h1
    ·omega
    ·have:=low _ h1;omega
   ·exact hc
   ·have h1:=(h (t.2 + 1)).1 ((memS_cons s r _).2 (.inl ⟨by omega,by omega⟩));rw [memS_cons] at h1
    rcases h1 with h1 | h1
    ·omega
    ·have:=low' _ h1;omega
  have e3:r=q:=gap_unique a3 b3 fun x=> by
   have hx:=h x;rw [memS_cons,memS_cons] at hx
   constructor
   ·intro h1;have h2:=low x h1
    rcases hx.1 (.inr h1) with h3 | h3
    ·omega
    ·exact h3
   ·intro h1;have h2:=low' x h1
    rcases hx.2 (.inr h1) with h3 | h3
    ·omega
    ·exact h3
  rw [e3,Prod.ext e1 e2]
theorem addP_gap {out:List (Int × Int)} {s:Int × Int} (h:Gap out) (hs:s.1≤s.2) (hb:∀ z∈out,z.1≤s.1):
  Gap (addP out s)∧(∀ x,memS (addP out s) x↔memS out x∨(s.1≤x∧x≤s.2))∧∀ z∈addP out s,z.1≤s.1:=by
 rcases List.eq_nil_or_concat out with rfl | ⟨l,z,rfl⟩
 ·rw [addP_nil];refine ⟨⟨by intro t ht;simp at ht;subst ht;exact hs,by simp⟩,fun x=> ?_,by intro z hz;simp at hz;subst hz;exact Int.le_refl _⟩;rw [memS_cons]
  constructor
  ·rintro (h | h)
   ·exact .inr h
   ·exact .inl h
  ·rintro (h | h)
   ·exact .inr h
   ·exact .inl h
 ·rw [List.concat_eq_append] at h hb ⊢;obtain ⟨g1,g2,g3⟩:=gap_snoc.1 h;have hz:=hb z (by simp)
  by_cases hc:s.1≤z.2 + 1
  ·rw [addP_in l z s hc];refine ⟨gap_snoc.2 ⟨g1,by simp only;omega,g3⟩,fun x=> ?_,fun t ht=> ?_⟩
   ·rw [memS_append,memS_append,memS_cons,memS_cons];simp only [memS_nil,or_false]
    constructor
    ·rintro (h1 | h1)
     ·exact .inl (.inl h1)
     ·by_cases hx:x≤z.2
      ·exact .inl (.inr ⟨h1.1,hx⟩)
      ·exact .inr ⟨by omega,by omega⟩
    ·rintro ((h1 | h1) | h1)
     ·exact .inl h1
     ·exact .inr ⟨h1.1,by omega⟩
     ·exact .inr ⟨by omega,by omega⟩
   ·rcases List.mem_append.1 ht with ht | ht
    ·exact hb t (by simp [ht])
    ·simp at ht;subst ht;exact hz
  ·rw [addP_out l z s hc];refine ⟨gap_snoc.2 ⟨h,hs,fun t ht=> ?_⟩,fun x=> ?_,fun t ht=> ?_⟩
   ·rcases List.mem_append.1 ht with ht | ht
    ·have:=g3 t ht;omega
    ·simp at ht;subst ht;omega
   ·rw [memS_append (l ++ [z])];rw [memS_cons];simp only [memS_nil,or_false]
   ·rcases List.mem_append.1 ht with ht | ht
    ·exact hb t ht
    ·simp at ht;subst ht;exact Int.le_refl _
def selIn (x:Int × Int):List (Int × Int)→(Int × Int) × List (Int × Int)
 | []=> (x,[])
 | y::r=> if y.1 < x.1 then ((selIn y r).1,x::(selIn y r).2) else ((selIn x r).1,y::(selIn x r).2)
theorem selIn_length:∀ (x:Int × Int) (l:List (Int × Int)),(selIn x l).2.length=l.length
 | _,[]=> rfl
 | x,y::r=> by
  unfold selIn
  split
  ·simp [selIn_length y r]
  ·simp [selIn_length x r]
theorem selIn_mem:∀ (x:Int × Int) (l:List (Int × Int)) (s:Int × Int),(s=(selIn x l).1∨s∈(selIn x l).2)↔(s=x∨s∈l)
 | x,[],s=> by simp [selIn]
 | x,y::r,s=> by
  unfold selIn
  split
  ·have h:=selIn_mem y r s;simp only [List.mem_cons]
   constructor
   ·rintro (h1 | h1 | h1)
    ·rcases h.1 (.inl h1) with h2 | h2
     ·exact .inr (.inl h2)
     ·exact .inr (.inr h2)
    ·exact .inl h1
    ·rcases h.1 (.inr h1) with h2 | h2
     ·exact .inr (.inl h2)
     ·exact .inr (.inr h2)
   ·rintro (h1 | h1 | h1)
    ·exact .inr (.inl h1)
    ·rcases h.2 (.inl h1) with h2 | h2
     ·exact .inl h2
     ·exact .inr (.inr h2)
    ·rcases h.2 (.inr h1) with h2 | h2
     ·exact .inl h2
     ·exact .inr (.inr h2)
  ·have h:=selIn_mem x r s;simp only [List.mem_cons]
   constructor
   ·rintro (h1 | h1 | h1)
    ·rcases h.1 (.inl h1) with h2 | h2
     ·exact .inl h2
     ·exact .inr (.inr h2)
    ·exact .inr (.inl h1)
    ·rcases h.1 (.inr h1) with h2 | h2
     ·exact .inl h2
     ·exact .inr (.inr h2)
   ·rintro (h1 | h1 | h1)
    ·rcases h.2 (.inl h1) with h2 | h2
     ·exact .inl h2
     ·exact .inr (.inr h2)
    ·exact .inr (.inl h1)
    ·rcases h.2 (.inr h1) with h2 | h2
     ·exact .inl h2
     ·exact .inr (.inr h2)
theorem selIn_le:∀ (x:Int × Int) (l:List (Int × Int)),(selIn x l).1.1≤x.1∧∀ s∈(selIn x l).2,(selIn x l).1.1≤s.1
 | x,[]=> by simp [selIn]
 | x,y::r=> by
  unfold selIn
  split
  ·rename_i hc
   obtain ⟨h1,h2⟩:=selIn_le y r;refine ⟨by simp only;omega,fun s hs=> ?_⟩;simp only [List.mem_cons] at hs
   rcases hs with rfl | hs
   ·simp only;omega
   ·exact h2 s hs
  ·rename_i hc
   obtain ⟨h1,h2⟩:=selIn_le x r;refine ⟨h1,fun s hs=> ?_⟩;simp only [List.mem_cons] at hs
   rcases hs with rfl | hs
   ·simp only;omega
   ·exact h2 s hs
def joinP:List (Int × Int)→List (Int × Int)→List (Int × Int)
 | [],out=> out
 | x::r,out=> joinP (selIn x r).2 (addP out (selIn x r).1)
termination_by l=> l.length
decreasing_by simp [selIn_length]
theorem joinP_cons (x:Int × Int) (r out:List (Int × Int)):joinP (x::r) out=joinP (selIn x r).2 (addP out (selIn x r).1):=by rw [joinP]
theorem joinP_law:∀ (n:Nat) (l out:List (Int × Int)),l.length=n→Gap out→(∀ s∈l,s.1≤s.2)→(∀ z∈out,∀ s∈l,z.1≤s.1)→
  Gap (joinP l out)∧∀ x,memS (joinP l out) x↔memS out x∨memS l x
 | 0,l,out,hn,hg,_,_=> by
  obtain rfl:l=[]:=List.eq_nil_of_length_eq_zero hn;rw [joinP];exact ⟨hg,fun x=> by simp [memS_nil]⟩
 | n + 1,[],out,hn,_,_,_=> by simp at hn
 | n + 1,y::r,out,hn,hg,hs,hb=> by
  have hm:=selIn_mem y r;obtain ⟨l1,l2⟩:=selIn_le y r;have hin:∀ s,s=(selIn y r).1∨s∈(selIn y r).2→s∈y::r:=fun s h=> by
   rcases (hm s).1 h with h | h
   ·simp [h]
   ·simp [h]
  obtain ⟨g1,g2,g3⟩:=addP_gap hg (hs _ (hin _ (.inl rfl))) (fun z hz=> hb z hz _ (hin _ (.inl rfl)));obtain ⟨r1,r2⟩:=joinP_law n (selIn y r).2 (addP out (selIn y r).1) (by rw [selIn_length];simpa using hn) g1 (fun s h=> hs s (hin s (.inr h))) (fun z hz s h=> Int.le_trans (g3 z hz) (l2 s h));rw [joinP_cons];refine ⟨r1,fun x=> ?_⟩;rw [r2,g2]
  constructor
  ·rintro ((h | h) | ⟨s,h1,h2⟩)
   ·exact .inl h
   ·exact .inr ⟨_,hin _ (.inl rfl),h⟩
   ·exact .inr ⟨s,hin s (.inr h1),h2⟩
  ·rintro (h | ⟨s,h1,h2⟩)
   ·exact .inl (.inl h)
   ·rcases (hm s).2 (by simpa using h1) with h3 | h3
    ·subst h3;exact .inl (.inr h2)
    ·exact .inr ⟨s,h3,h2⟩
theorem sorted_compact {l:List Int} (h:l.Pairwise fun x y=> x≤y):(Lib.compact l).Pairwise fun x y=> x < y:=by
 unfold Lib.compact Lib.compactUpTo;rw [List.pairwise_map];refine List.Pairwise.imp_of_mem (R:=fun a b=> a < b) ?_ (List.Pairwise.filter _ (List.pairwise_lt_range));intro a b ha hb hab;obtain ⟨hb1,hb2⟩:=List.mem_filter.1 hb;obtain ⟨ha1,_⟩:=List.mem_filter.1 ha;have hbl:b < l.length:=by simpa using hb1
 have hk:l[b]!≠l[b - 1]!:=by
  intro he;rw [Lib.keeps_neg (by omega) (by simpa using he)] at hb2
  cases hb2
 have g:∀ i (h:i < l.length),l.toArray[i]! =l[i]:=fun i h=> by simp [h]
 have g':∀ i (h:i < l.length),l[i]! =l[i]:=fun i h=> by simp [h]
 rw [g a (by omega),g b hbl];rw [g' b hbl,g' (b - 1) (by omega)] at hk;have p1:l[a]≤l[b - 1]:=by
  rcases Nat.lt_or_eq_of_le (show a≤b - 1 by omega) with h1 | h1
  ·exact List.pairwise_iff_getElem.1 h a (b - 1) (by omega) (by omega) h1
  ·simp only [h1];exact Int.le_refl _
 have p2:l[b - 1]≤l[b]:=List.pairwise_iff_getElem.1 h (b - 1) b (by omega) hbl (by omega);omega
theorem mem_compact {l:List Int} {x:Int} (h:x∈l):x∈Lib.compact l:=by
 obtain ⟨j,hj,hx⟩:=List.getElem_of_mem h
 induction j using Nat.strongRecOn with
 | _ j ih=>
  by_cases h0:j=0∨l[j]!≠l[j - 1]!
  ·unfold Lib.compact Lib.compactUpTo;refine List.mem_map.2 ⟨j,List.mem_filter.2 ⟨by simpa using hj,?_⟩,by simp [hj,hx]⟩
   rcases h0 with h0 | h0
   ·exact Lib.keeps_lt_one _ j (by omega)
   ·exact Lib.keeps_pos (by simpa using h0)
  ·have h1:j≠0:=fun h=> h0 (.inl h);have h2:l[j]! =l[j - 1]!:=Decidable.byContradiction fun h=> h0 (.inr h);have g':∀ i (h:i < l.length),l[i]! =l[i]:=fun i h=> by simp [h]
   rw [g' j hj,g' (j - 1) (by omega)] at h2;exact ih (j - 1) (by omega) (by omega) (by rw [←h2,hx])
theorem mem_endsP {A B:List (Int × Int)} {x:Int}:x∈endsP A B↔∃ s∈A ++ B,x=s.1∨x=s.2 + 1:=by
 have h1:x∈endsP A B↔x∈endsF (A ++ B):=by
  unfold endsP
  constructor
  ·intro h;exact (List.mem_mergeSort).1 (compact_mem h)
  ·intro h;exact mem_compact ((List.mem_mergeSort).2 h)
 rw [h1];unfold endsF;rw [List.mem_flatMap]
 simp
theorem endsP_sorted (A B:List (Int × Int)):(endsP A B).Pairwise fun x y=> x < y:=by
 refine sorted_compact ?_;have h:=List.pairwise_mergeSort (le:=fun x y:Int=> decide (x≤y)) (fun a b c h1 h2=> by simp at h1 h2 ⊢;omega) (fun a b=> by simp;omega) (endsF (A ++ B));exact h.imp fun h=> by simpa using h
theorem adv_law {l:List (Int × Int)} (hg:Gap l) {n:Nat} {x:Int} (hn:n≤l.length) (hlow:∀ i (h:i < l.length),i < n→l[i].2 < x):
  adv l n x≤l.length∧(∀ i (h:i < l.length),i < adv l n x→l[i].2 < x)∧(inb l (adv l n x) x=true↔memS l x):=by
 have hle:=adv_le l n x hn;have hlow2:∀ i (h:i < l.length),i < adv l n x→l[i].2 < x:=by
  intro i h hi
  by_cases hin:i < n
  ·exact hlow i h hin
  ·unfold adv at hi;have hj:i - n < ((l.drop n).takeWhile fun s=> decide (s.2 < x)).length:=by omega
   have h1:=List.all_eq_true.1 (List.all_takeWhile (p:=fun s:Int × Int=> decide (s.2 < x)) (l:=l.drop n)) _ (List.getElem_mem hj);have h2:((l.drop n).takeWhile fun s=> decide (s.2 < x))[i - n]=l[i]:=by
    have h3:=(List.takeWhile_prefix (fun s:Int × Int=> decide (s.2 < x)) (l:=l.drop n)).getElem hj;rw [h3,List.getElem_drop]
    congr 1;omega
   rw [h2] at h1
   simpa using h1
 refine ⟨hle,hlow2,?_⟩;have hstop:∀ (h:adv l n x < l.length),¬ l[adv l n x].2 < x:=by
  intro h hc;have hd:(l.drop n)=(l.drop n).takeWhile (fun s=> decide (s.2 < x)) ++ (l.drop n).dropWhile (fun s=> decide (s.2 < x)):=List.takeWhile_append_dropWhile.symm;have hdw:(l.drop n).dropWhile (fun s=> decide (s.2 < x))=l.drop (adv l n x):=by
   have:=congrArg (List.drop ((l.drop n).takeWhile (fun s=> decide (s.2 < x))).length) hd
   rw [List.drop_left,List.drop_drop] at this;exact this.symm
  have hne:(l.drop n).dropWhile (fun s=> decide (s.2 < x))≠[]:=by rw [hdw];simp;omega
  have h1:=List.head_dropWhile_not (fun s:Int × Int=> decide (s.2 < x)) hne;have h2:((l.drop n).dropWhile (fun s=> decide (s.2 < x))).head hne=l[adv l n x]:=by
   have h4:((l.drop n).dropWhile (fun s=> decide (s.2 < x))).head? =some (l[adv l n x]):=by rw [hdw,List.head?_drop];simp [h]
   rw [List.head?_eq_some_head hne] at h4;exact Option.some.inj h4
  rw [h2] at h1;simp at h1;omega
 generalize adv l n x=k at *
 by_cases hk:k < l.length
 ·rw [inb_at hk];have h1:=hstop hk
  constructor
  ·intro h;exact ⟨l[k],List.getElem_mem hk,by simpa using h,by omega⟩
  ·rintro ⟨s,hs,h2,h3⟩;obtain ⟨i,hi,rfl⟩:=List.getElem_of_mem hs;have hik:¬ i < k:=fun h=> by have:=hlow2 i hi h;omega
   rcases Nat.lt_or_eq_of_le (show k≤i by omega) with h4 | h4
   ·have h5:=List.pairwise_iff_getElem.1 hg.2 k i hk hi h4;have h6:=hg.1 l[k] (List.getElem_mem hk)
    simp;omega
   ·subst h4;simpa using h2
 ·rw [inb_none hk]
  constructor
  ·intro h;cases h
  ·rintro ⟨s,hs,h2,h3⟩;obtain ⟨i,hi,rfl⟩:=List.getElem_of_mem hs
   have:=hlow2 i hi (by omega)
   omega
theorem comb_law {A B:List (Int × Int)} (ga:Gap A) (gb:Gap B):∀ (ends:List Int) (x:Int) (n0 n1:Nat) (out:List (Int × Int)),
  (x::ends).Pairwise (fun x y=> x < y)→n0≤A.length→n1≤B.length→(∀ i (h:i < A.length),i < n0→A[i].2 < x)→(∀ i (h:i < B.length),i < n1→B[i].2 < x)→
  (∀ s∈A ++ B,(s.1≤x∨s.1∈ends)∧(s.2 + 1≤x∨s.2 + 1∈ends))→Gap out→(∀ z∈out,z.1≤x)→
  Gap (comb (fun a b=> a || b) A B (x::ends) n0 n1 out)∧∀ t,memS (comb (fun a b=> a || b) A B (x::ends) n0 n1 out) t↔memS out t∨(x≤t∧(memS A t∨memS B t))
 | [],x,n0,n1,out,_,_,_,_,_,hends,hg,_=> by
  rw [comb_end _ _ _ _ (by simp)];refine ⟨hg,fun t=> ⟨fun h=> .inl h,?_⟩⟩;rintro (h | ⟨h1,h2⟩)
  ·exact h
  ·exfalso
   rw [←memS_append] at h2;obtain ⟨s,hs,h3,h4⟩:=h2
   have:=(hends s hs).2
   simp at this;omega
 | y::r,x,n0,n1,out,hp,h0,h1,l0,l1,hends,hg,hz=> by
  obtain ⟨p1,p2⟩:=List.pairwise_cons.1 hp;obtain ⟨q1,_⟩:=List.pairwise_cons.1 p2;have hxy:=p1 y (by simp);obtain ⟨a1,a2,a3⟩:=adv_law ga h0 l0;obtain ⟨b1,b2,b3⟩:=adv_law gb h1 l1;have far:∀ e,e∈y::r→y≤e:=fun e he=> by
   rcases List.mem_cons.1 he with rfl | he
   ·exact Int.le_refl _
   ·have:=q1 e he;omega
  have const:∀ (l:List (Int × Int)),(∀ s∈l,s∈A ++ B)→∀ t,x≤t→t≤y - 1→(memS l t↔memS l x):=by
   intro l hl t ht1 ht2
   constructor
   ·rintro ⟨s,hs,h3,h4⟩;refine ⟨s,hs,?_,by omega⟩
    rcases (hends s (hl s hs)).1 with h5 | h5
    ·exact h5
    ·have:=far _ h5;omega
   ·rintro ⟨s,hs,h3,h4⟩;refine ⟨s,hs,by omega,?_⟩
    rcases (hends s (hl s hs)).2 with h5 | h5
    ·omega
    ·have:=far _ h5;omega
  have ca:=const A (fun s hs=> List.mem_append_left _ hs);have cb:=const B (fun s hs=> List.mem_append_right _ hs);rw [comb];have hends':∀ s∈A ++ B,(s.1≤y∨s.1∈r)∧(s.2 + 1≤y∨s.2 + 1∈r):=fun s hs=> by
   obtain ⟨h3,h4⟩:=hends s hs
   constructor
   ·rcases h3 with h3 | h3
    ·exact .inl (by omega)
    ·rcases List.mem_cons.1 h3 with h5 | h5
     ·exact .inl (by omega)
     ·exact .inr h5
   ·rcases h4 with h3 | h3
    ·exact .inl (by omega)
    ·rcases List.mem_cons.1 h3 with h5 | h5
     ·exact .inl (by omega)
     ·exact .inr h5
  by_cases hin:(inb A (adv A n0 x) x || inb B (adv B n1 x) x)=true
  ·have hmx:memS A x∨memS B x:=by
    rcases Bool.or_eq_true _ _ ▸ hin with h | h
    ·exact .inl (a3.1 h)
    ·exact .inr (b3.1 h)
   obtain ⟨g1,g2,g3⟩:=addP_gap (s:=(x,y - 1)) hg (by simp only;omega) (fun z h=> hz z h);obtain ⟨r1,r2⟩:=comb_law ga gb r y _ _ (addP out (x,y - 1)) p2 a1 b1 (fun i h hi=> by have:=a2 i h hi;omega) (fun i h hi=> by have:=b2 i h hi;omega) hends' g1 (fun z h=> by have:=g3 z h;simp only at this;omega);rw [if_pos hin];refine ⟨r1,fun t=> ?_⟩;rw [r2,g2]
   constructor
   ·rintro ((h | h) | h)
    ·exact .inl h
    ·simp only at h;refine .inr ⟨h.1,?_⟩
     rcases hmx with h5 | h5
     ·exact .inl ((ca t h.1 h.2).2 h5)
     ·exact .inr ((cb t h.1 h.2).2 h5)
    ·exact .inr ⟨by omega,h.2⟩
   ·rintro (h | h)
    ·exact .inl (.inl h)
    ·by_cases hty:y≤t
     ·exact .inr ⟨hty,h.2⟩
     ·exact .inl (.inr ⟨h.1,by simp only;omega⟩)
  ·have hmx:¬ (memS A x∨memS B x):=fun h=> hin (by
    rcases h with h | h
    ·rw [a3.2 h];rfl
    ·rw [b3.2 h];simp)
   obtain ⟨r1,r2⟩:=comb_law ga gb r y (adv A n0 x) (adv B n1 x) out p2 a1 b1 (fun i h hi=> by have:=a2 i h hi;omega) (fun i h hi=> by have:=b2 i h hi;omega) hends' hg (fun z h=> by have:=hz z h;omega);rw [if_neg hin];refine ⟨r1,fun t=> ?_⟩;rw [r2]
   constructor
   ·rintro (h | h)
    ·exact .inl h
    ·exact .inr ⟨by omega,h.2⟩
   ·rintro (h | h)
    ·exact .inl h
    ·by_cases hty:y≤t
     ·exact .inr ⟨hty,h.2⟩
     ·exfalso
      apply hmx
      rcases h.2 with h5 | h5
      ·exact .inl ((ca t h.1 (by omega)).1 h5)
      ·exact .inr ((cb t h.1 (by omega)).1 h5)
theorem union_law {A B:List (Int × Int)} (ha:SpansOK A) (hb:SpansOK B):combP (fun a b=> a || b) A B=joinP (A ++ B) []:=by
 have ga:=gap_of_ok ha;have gb:=gap_of_ok hb;have hs:∀ s∈A ++ B,s.1≤s.2:=fun s h=> by
  rcases List.mem_append.1 h with h | h
  ·exact ga.1 s h
  ·exact gb.1 s h
 obtain ⟨j1,j2⟩:=joinP_law _ (A ++ B) [] rfl ⟨by simp,List.Pairwise.nil⟩ hs (by simp);have hsrt:=endsP_sorted A B;unfold combP;have hmem:∀ s∈A ++ B,s.1∈endsP A B∧s.2 + 1∈endsP A B:=fun s h=> ⟨mem_endsP.2 ⟨s,h,.inl rfl⟩,mem_endsP.2 ⟨s,h,.inr rfl⟩⟩
 cases he:endsP A B with
 | nil=>
  rw [comb_end _ _ _ _ (by simp)];refine gap_unique ⟨by simp,List.Pairwise.nil⟩ j1 fun x=> ?_;rw [j2]
  constructor
  ·intro h;exact absurd h (memS_nil _)
  ·rintro (h | ⟨s,h1,_⟩)
   ·exact h
   ·have:=(hmem s h1).1;rw [he] at this;simp at this
 | cons x ends=>
  rw [he] at hsrt hmem;obtain ⟨p1,_⟩:=List.pairwise_cons.1 hsrt;obtain ⟨c1,c2⟩:=comb_law ga gb ends x 0 0 [] hsrt (Nat.zero_le _) (Nat.zero_le _) (by intro i _ h;omega) (by intro i _ h;omega) (fun s h=> by
   obtain ⟨h1,h2⟩:=hmem s h
   constructor
   ·rcases List.mem_cons.1 h1 with h3 | h3
    ·exact .inl (by omega)
    ·exact .inr h3
   ·rcases List.mem_cons.1 h2 with h3 | h3
    ·exact .inl (by omega)
    ·exact .inr h3) ⟨by simp,List.Pairwise.nil⟩ (by simp)
  refine gap_unique c1 j1 fun t=> ?_;rw [c2,j2,memS_append]
  constructor
  ·rintro (h | h)
   ·exact .inl h
   ·exact .inr h.2
  ·rintro (h | h)
   ·exact .inl h
   ·refine .inr ⟨?_,h⟩;rw [←memS_append] at h;obtain ⟨s,h1,h2,h3⟩:=h
    rcases List.mem_cons.1 (hmem s h1).1 with h4 | h4
    ·omega
    ·have:=p1 _ h4;omega
theorem overlapP_iff:∀ (n:Nat) (a b:List (Int × Int)),a.length + b.length=n→Gap a→Gap b→(overlapP a b=true↔∃ x,memS a x∧memS b x)
 | n,[],b,_,_,_=> by rw [overlapP];exact ⟨fun h=> (by cases h),fun ⟨x,h,_⟩=> absurd h (memS_nil x)⟩
 | n,s::r,[],_,_,_=> by rw [overlapP];exact ⟨fun h=> (by cases h),fun ⟨x,_,h⟩=> absurd h (memS_nil x)⟩
 | 0,s::r,t::q,hn,_,_=> by simp at hn
 | n + 1,s::r,t::q,hn,ha,hb=> by
  obtain ⟨a1,a2,a3⟩:=gap_cons.1 ha;obtain ⟨b1,b2,b3⟩:=gap_cons.1 hb;simp only [List.length_cons] at hn;rw [overlapP]
  by_cases h1:s.2 < t.1
  ·rw [if_pos h1,overlapP_iff n r (t::q) (by simp only [List.length_cons];omega) a3 hb]
   constructor
   ·rintro ⟨x,hx,hy⟩;exact ⟨x,(memS_cons _ _ _).2 (.inr hx),hy⟩
   ·rintro ⟨x,hx,hy⟩
    rcases (memS_cons _ _ _).1 hx with h | h
    ·exfalso
     rcases (memS_cons _ _ _).1 hy with h' | ⟨u,hu,h',_⟩
     ·omega
     ·have:=b2 u hu;omega
    ·exact ⟨x,h,hy⟩
  ·rw [if_neg h1]
   by_cases h2:t.2 < s.1
   ·rw [if_pos h2,overlapP_iff n (s::r) q (by simp only [List.length_cons];omega) ha b3]
    constructor
    ·rintro ⟨x,hx,hy⟩;exact ⟨x,hx,(memS_cons _ _ _).2 (.inr hy)⟩
    ·rintro ⟨x,hx,hy⟩
     rcases (memS_cons _ _ _).1 hy with h | h
     ·exfalso
      rcases (memS_cons _ _ _).1 hx with h' | ⟨u,hu,h',_⟩
      ·omega
      ·have:=a2 u hu;omega
     ·exact ⟨x,hx,h⟩
   ·rw [if_neg h2];refine ⟨fun _=> ?_,fun _=> rfl⟩
    by_cases h3:s.1≤t.1
    ·exact ⟨t.1,(memS_cons _ _ _).2 (.inl ⟨h3,by omega⟩),(memS_cons _ _ _).2 (.inl ⟨by omega,b1⟩)⟩
    ·exact ⟨s.1,(memS_cons _ _ _).2 (.inl ⟨by omega,a1⟩),(memS_cons _ _ _).2 (.inl ⟨by omega,by omega⟩)⟩
mutual
def beginsX (x:Int):Tree→Bool
 | .node op set kids _ _ _ _ _=>
  if op=1 then set.any fun s=> decide (s.1≤x) && decide (x≤s.2)
  else if op=6 then true
  else if op=2 then beginsXC x kids
  else if op=3∨op=10∨op=4∨op=5∨op=9 then beginsXA x kids
  else false
def beginsXC (x:Int):List Tree→Bool
 | []=> false
 | k::ks=> beginsX x k || (nullP k && beginsXC x ks)
def beginsXA (x:Int):List Tree→Bool
 | []=> false
 | k::ks=> beginsX x k || beginsXA x ks
end
mutual
def boundsT:Tree→List Int
 | .node _ set kids _ _ _ _ _=> endsF set ++ boundsL kids
def boundsL:List Tree→List Int
 | []=> []
 | k::ks=> boundsT k ++ boundsL ks
end
theorem boundsL_mem {k:Tree} {l:List Tree} (h:k∈l) {e:Int} (he:e∈boundsT k):e∈boundsL l:=by
 induction l with
 | nil=> simp at h
 | cons x xs ih=>
  rw [boundsL,List.mem_append]
  rcases List.mem_cons.1 h with rfl | h
  ·exact .inl he
  ·exact .inr (ih h)
theorem any_memS (set:List (Int × Int)) (x:Int):(set.any fun s=> decide (s.1≤x) && decide (x≤s.2))=true↔memS set x:=by
 rw [List.any_eq_true];unfold memS
 simp
theorem begins_iff {S:List (Int × Int)} (hS:Gap S):∀ t:Tree,t.WFq→(beginsT S t=true↔∃ x,memS S x∧beginsX x t=true):=by
 intro t
 induction t using Tree.induct with
 | h op set kids mn mx mode n neg ih=>
  intro hw;have hno:=hw.node;have hC:∀ l:List Tree,(∀ k∈l,k∈kids)→(beginsCat S l=true↔∃ x,memS S x∧beginsXC x l=true):=by
   intro l
   induction l with
   | nil=> intro _;simp [beginsCat,beginsXC]
   | cons k ks ihl=>
    intro hl;have h1:=ih k (hl k (by simp)) (hw.kid (hl k (by simp)));have h2:=ihl fun q hq=> hl q (by simp [hq]);simp only [beginsCat,beginsXC,Bool.or_eq_true,Bool.and_eq_true];rw [h1,h2]
    constructor
    ·rintro (⟨x,a,b⟩ | ⟨c,x,a,b⟩)
     ·exact ⟨x,a,.inl b⟩
     ·exact ⟨x,a,.inr ⟨c,b⟩⟩
    ·rintro ⟨x,a,b | ⟨c,b⟩⟩
     ·exact .inl ⟨x,a,b⟩
     ·exact .inr ⟨c,x,a,b⟩
  have hA:∀ l:List Tree,(∀ k∈l,k∈kids)→(beginsAny S l=true↔∃ x,memS S x∧beginsXA x l=true):=by
   intro l
   induction l with
   | nil=> intro _;simp [beginsAny,beginsXA]
   | cons k ks ihl=>
    intro hl;have h1:=ih k (hl k (by simp)) (hw.kid (hl k (by simp)));have h2:=ihl fun q hq=> hl q (by simp [hq]);simp only [beginsAny,beginsXA,Bool.or_eq_true];rw [h1,h2]
    constructor
    ·rintro (⟨x,a,b⟩ | ⟨x,a,b⟩)
     ·exact ⟨x,a,.inl b⟩
     ·exact ⟨x,a,.inr b⟩
    ·rintro ⟨x,a,b | b⟩
     ·exact .inl ⟨x,a,b⟩
     ·exact .inr ⟨x,a,b⟩
  rw [beginsT];simp only [beginsX]
  by_cases h1:op=1
  ·simp only [if_pos h1];rw [overlapP_iff _ set S rfl (gap_of_ok (hno.hset h1)) hS]
   constructor
   ·rintro ⟨x,a,b⟩;exact ⟨x,b,(any_memS _ _).2 a⟩
   ·rintro ⟨x,a,b⟩;exact ⟨x,(any_memS _ _).1 b,a⟩
  ·simp only [if_neg h1]
   by_cases h6:op=6
   ·simp only [if_pos h6]
    cases S with
    | nil=> simp [memS_nil]
    | cons s r=>
     have:=(gap_cons.1 hS).1
     simp only [List.length_cons,and_true];exact ⟨fun _=> ⟨s.1,(memS_cons _ _ _).2 (.inl ⟨Int.le_refl _,this⟩)⟩,fun _=> by simp⟩
   ·simp only [if_neg h6]
    by_cases h2:op=2
    ·simp only [if_pos h2];exact hC kids fun _ h=> h
    ·simp only [if_neg h2]
     by_cases h3:op=3∨op=10∨op=4∨op=5∨op=9
     ·simp only [if_pos h3];exact hA kids fun _ h=> h
     ·simp only [if_neg h3]
      simp
theorem memS_const {set:List (Int × Int)} {x y:Int} (hyx:y≤x) (h:∀ e∈endsF set,e≤y∨x < e):memS set y↔memS set x:=by
 have h1:∀ s∈set,(s.1≤y∨x < s.1)∧(s.2 + 1≤y∨x < s.2 + 1):=fun s hs=> ⟨h _ (List.mem_flatMap.2 ⟨s,hs,by simp⟩),h _ (List.mem_flatMap.2 ⟨s,hs,by simp⟩)⟩
 constructor
 ·rintro ⟨s,hs,a,b⟩
  have:=h1 s hs
  exact ⟨s,hs,by omega,by omega⟩
 ·rintro ⟨s,hs,a,b⟩
  have:=h1 s hs
  exact ⟨s,hs,by omega,by omega⟩
theorem beginsX_const {x y:Int} (hyx:y≤x):∀ t:Tree,(∀ e∈boundsT t,e≤y∨x < e)→beginsX y t=beginsX x t:=by
 intro t
 induction t using Tree.induct with
 | h op set kids mn mx mode n neg ih=>
  intro hb;have hk:∀ k∈kids,beginsX y k=beginsX x k:=fun k hk=> ih k hk fun e he=> hb e (by rw [boundsT,List.mem_append];exact .inr (boundsL_mem hk he));have hC:∀ l:List Tree,(∀ k∈l,k∈kids)→beginsXC y l=beginsXC x l:=by
   intro l
   induction l with
   | nil=> intro _;rfl
   | cons k ks ihl=>
    intro hl;simp only [beginsXC];rw [hk k (hl k (by simp)),ihl fun q hq=> hl q (by simp [hq])]
  have hA:∀ l:List Tree,(∀ k∈l,k∈kids)→beginsXA y l=beginsXA x l:=by
   intro l
   induction l with
   | nil=> intro _;rfl
   | cons k ks ihl=>
    intro hl;simp only [beginsXA];rw [hk k (hl k (by simp)),ihl fun q hq=> hl q (by simp [hq])]
  simp only [beginsX];rw [hC kids fun _ h=> h,hA kids fun _ h=> h];have hs:(set.any fun s=> decide (s.1≤y) && decide (y≤s.2))=(set.any fun s=> decide (s.1≤x) && decide (x≤s.2)):=by
   rw [Bool.eq_iff_iff,any_memS,any_memS];exact memS_const hyx fun e he=> hb e (by rw [boundsT,List.mem_append];exact .inl he)
  rw [hs]
theorem greatest (l:List Int) (x:Int) (h:∃ e∈l,e≤x):∃ y∈l,y≤x∧∀ e∈l,e≤y∨x < e:=by
 induction l with
 | nil=> obtain ⟨e,he,_⟩:=h;simp at he
 | cons a r ih=>
  by_cases hr:∃ e∈r,e≤x
  ·obtain ⟨y,hy,h1,h2⟩:=ih hr
   by_cases ha:a≤x∧y < a
   ·refine ⟨a,by simp,ha.1,fun e he=> ?_⟩
    rcases List.mem_cons.1 he with rfl | he
    ·exact .inl (Int.le_refl _)
    ·rcases h2 e he with h3 | h3
     ·exact .inl (by omega)
     ·exact .inr h3
   ·refine ⟨y,by simp [hy],h1,fun e he=> ?_⟩
    rcases List.mem_cons.1 he with rfl | he
    ·by_cases h3:e≤x
     ·exact .inl (by omega)
     ·exact .inr (by omega)
    ·exact h2 e he
  ·obtain ⟨e,he,h1⟩:=h
   rcases List.mem_cons.1 he with rfl | he
   ·refine ⟨e,by simp,h1,fun q hq=> ?_⟩
    rcases List.mem_cons.1 hq with rfl | hq
    ·exact .inl (Int.le_refl _)
    ·exact .inr (by rcases Int.lt_or_le x q with h3 | h3;exact h3;exact absurd ⟨q,hq,h3⟩ hr)
   ·exact absurd ⟨e,he,h1⟩ hr
def apartP (s t:Tree):Bool:=(boundsT s ++ boundsT t).all fun e=> !(beginsX e s && beginsX e t)
theorem apart_law {s t:Tree} (ho:s.op=1) (hs:SpansOK s.set) (ht:t.WFq):apartP s t=!beginsT s.set t:=by
 have hg:=gap_of_ok hs;have hX:∀ x,beginsX x s=true↔memS s.set x:=by
  intro x
  cases s with
  | node op set kids mn mx mode n neg=>
   have ho:op=1:=ho;simp only [beginsX,if_pos ho];exact any_memS _ _
 have hb:∀ e∈endsF s.set,e∈boundsT s:=by
  intro e he
  cases s with
  | node op set kids mn mx mode n neg=> rw [boundsT,List.mem_append];exact .inl he
 have hi:=begins_iff hg t ht;rw [Bool.eq_iff_iff];unfold apartP;rw [List.all_eq_true]
 constructor
 ·intro h
  cases hq:beginsT s.set t with
  | false=> rfl
  | true=>
   exfalso
   obtain ⟨x,h1,h2⟩:=hi.1 hq;obtain ⟨u,hu,h3,h4⟩:=h1;obtain ⟨y,hy,h5,h6⟩:=greatest (boundsT s ++ boundsT t) x ⟨u.1,List.mem_append_left _ (hb _ (List.mem_flatMap.2 ⟨u,hu,by simp⟩)),h3⟩;have h7:=h y hy;have h8:beginsX y s=true:=(hX y).2 ((memS_const h5 fun e he=> h6 e (List.mem_append_left _ (hb e he))).2 ⟨u,hu,h3,h4⟩);have h9:beginsX y t=true:=by rw [beginsX_const h5 t fun e he=> h6 e (List.mem_append_right _ he)];exact h2
   rw [h8,h9] at h7
   cases h7
 ·intro h e _
  cases h1:beginsX e s with
  | false=> rfl
  | true=>
   cases h2:beginsX e t with
   | false=> rfl
   | true=>
    have:=hi.2 ⟨e,(hX e).1 h1,h2⟩
    rw [this] at h
    cases h
end Go.Proofs.YtjnlkjlbejelgaaGreat
