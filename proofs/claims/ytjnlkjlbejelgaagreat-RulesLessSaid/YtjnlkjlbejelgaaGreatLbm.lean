/- Part 39 of the proof. No condition: every lemma says its own. -/
import Derived.Test.YtjnlkjlbejelgaaGreatLaq
import Derived.Test.YtjnlkjlbejelgaaGreatLay
import Derived.Test.YtjnlkjlbejelgaaGreatLbl
namespace Go.Proofs.YtjnlkjlbejelgaaGreat
open Go.RowKit
open Go.Value renaming int→H,slice→M,bool→F
open Go.IntKind renaming i64→J
set_option maxRecDepth 100000
set_option maxHeartbeats 16000000
def Sub8 (u v:Nat):Prop:=∀ i,u.testBit i=true→(v ||| 8).testBit i=true
theorem sub8_eq {u v:Nat} (h:Sub8 u v):(u ||| v) ||| 8=v ||| 8:=by
 apply Nat.eq_of_testBit_eq
 intro i
 have:=h i
 simp only [Nat.testBit_or] at *
 grind
theorem Sub8.refl (u:Nat):Sub8 u u:=fun i h=> by simp only [Nat.testBit_or,h,Bool.true_or]
theorem Sub8.zero (v:Nat):Sub8 0 v:=fun i h=> by simp at h
theorem Sub8.or {a b v:Nat} (h:Sub8 a v) (k:Sub8 b v):Sub8 (a ||| b) v:=fun i hi=> by
 rw [Nat.testBit_or,Bool.or_eq_true] at hi
 rcases hi with h1 | h1
 ·exact h i h1
 ·exact k i h1
theorem Sub8.left {a v:Nat} (h:Sub8 a v) (w:Nat):Sub8 a (v ||| w):=fun i hi=> by
 have:=h i hi
 simp only [Nat.testBit_or] at *
 grind
theorem Sub8.right {a v:Nat} (h:Sub8 a v) (w:Nat):Sub8 a (w ||| v):=fun i hi=> by
 have:=h i hi
 simp only [Nat.testBit_or] at *
 grind
theorem leafTs_append (a b:List Tree):leafTs (a ++ b)=leafTs a + leafTs b:=by
 induction a with
 | nil=> simp [leafTs]
 | cons x r ih=> simp only [List.cons_append,leafTs,ih];omega
theorem sizeTs_append (a b:List Tree):sizeTs (a ++ b)=sizeTs a + sizeTs b:=by
 induction a with
 | nil=> simp [sizeTs]
 | cons x r ih=> simp only [List.cons_append,sizeTs,ih];omega
theorem usesL_append (a b:List Tree):usesL (a ++ b)=usesL a ||| usesL b:=by
 induction a with
 | nil=> simp [usesL]
 | cons x r ih=> simp only [List.cons_append,usesL,ih,Nat.or_assoc]
theorem capsTs_append (a b:List Tree):capsTs (a ++ b)=capsTs a ++ capsTs b:=by
 induction a with
 | nil=> simp [capsTs]
 | cons x r ih=> simp only [List.cons_append,capsTs,ih,List.append_assoc]
theorem nullAll_append (a b:List Tree):nullAll (a ++ b)=(nullAll a && nullAll b):=by
 induction a with
 | nil=> simp [nullAll]
 | cons x r ih=> simp only [List.cons_append,nullAll,ih,Bool.and_assoc]
theorem nullAny_append (a b:List Tree):nullAny (a ++ b)=(nullAny a || nullAny b):=by
 induction a with
 | nil=> simp [nullAny]
 | cons x r ih=> simp only [List.cons_append,nullAny,ih,Bool.or_assoc]
theorem leafT_pos:∀ t:Tree,1≤leafT t:=by
 intro t
 induction t using Tree.induct with
 | h op set kids mn mx mode n neg ih=>
  cases kids with
  | nil=> simp [leafT]
  | cons x r=> have:=ih x (by simp);simp only [leafT,List.isEmpty_cons,Bool.false_eq_true,if_false,leafTs];omega
theorem sizeT_pos (t:Tree):1≤sizeT t:=by cases t;simp only [sizeT];omega
structure Les (b:Bool) (x y:Tree):Prop where
 me:leafT y < leafT x∨(leafT y=leafT x∧(sizeT y < sizeT x∨(sizeT y=sizeT x∧b=true)))
 us:Sub8 (usesT y) (usesT x)
 nu:nullP y=nullP x
 ca:∀ n∈capsT y,n∈capsT x
theorem leafT_node {op set kids mn mx mode n neg} (h:kids≠[]):leafT (.node op set kids mn mx mode n neg)=leafTs kids:=by
 rw [leafT,if_neg]
 simpa using h
theorem uses_23 {op:Int} (h:op=2∨op=3) (set kids mn mx mode n neg):usesT (.node op set kids mn mx mode n neg)=usesL kids:=by
 rcases h with rfl | rfl <;> simp [usesT,usesOfT]
theorem caps_n5 {op:Int} (h:op≠5) (set kids mn mx mode n neg):capsT (.node op set kids mn mx mode n neg)=capsTs kids:=by simp [capsT,h]
theorem null_2 (set kids mn mx mode n neg):nullP (.node 2 set kids mn mx mode n neg)=nullAll kids:=by simp [nullP]
theorem null_3 (set kids mn mx mode n neg):nullP (.node 3 set kids mn mx mode n neg)=nullAny kids:=by simp [nullP]
theorem nary_me {op:Int} (ho:op=2∨op=3) {L:List Tree} (h:L≠[]):
  leafT (naryT op L)=leafTs L∧sizeT (naryT op L)≤1 + sizeTs L∧usesT (naryT op L)=usesL L∧capsT (naryT op L)=capsTs L∧nullP (naryT op L)=if op=2 then nullAll L else nullAny L:=by
 have h5:op≠5:=by omega
 match L,h with
 | [x],_=>
  refine ⟨by simp [naryT,leafTs],by simp [naryT,sizeTs],by simp [naryT,usesL],by simp [naryT,capsTs],?_⟩
  split <;> simp [naryT,nullAll,nullAny]
 | x::y::r,h=>
  have hn:naryT op (x::y::r)=.node op [] (x::y::r) 0 0 0 0 false:=rfl;rw [hn];refine ⟨leafT_node h,by simp only [sizeT];omega,uses_23 ho ..,caps_n5 h5 ..,?_⟩
  rcases ho with rfl | rfl
  ·rw [null_2,if_pos rfl]
  ·rw [null_3,if_neg (by decide)]
theorem nary_les {b:Bool} {op:Int} {set kids mn mx mode n neg} {L:List Tree} (ho:op=2∨op=3) (hk:kids≠[]) (hL:L≠[]) (hm:leafTs L < leafTs kids∨(leafTs L=leafTs kids∧(sizeTs L < sizeTs kids∨(sizeTs L≤sizeTs kids∧b=true)))) (hu:Sub8 (usesL L) (usesL kids))
  (hn:(op=2→nullAll L=nullAll kids)∧(op=3→nullAny L=nullAny kids)) (hc:∀ n∈capsTs L,n∈capsTs kids):Les b (.node op set kids mn mx mode n neg) (naryT op L):=by
 obtain ⟨m1,m2,m3,m4,m5⟩:=nary_me ho hL;refine ⟨?_,by rw [m3,uses_23 ho];exact hu,?_,by rw [m4,caps_n5 (by omega)];exact hc⟩
 ·rw [m1,leafT_node hk];simp only [sizeT]
  rcases hm with h | ⟨h,h1 | ⟨h1,h2⟩⟩
  ·exact .inl h
  ·exact .inr ⟨h,.inl (by omega)⟩
  ·refine .inr ⟨h,?_⟩
   rcases Nat.lt_or_ge (sizeT (naryT op L)) (1 + sizeTs kids) with h3 | h3
   ·exact .inl h3
   ·exact .inr ⟨by omega,h2⟩
 ·rw [m5]
  rcases ho with rfl | rfl
  ·rw [null_2,if_pos rfl];exact hn.1 rfl
  ·rw [null_3,if_neg (by decide)];exact hn.2 rfl
theorem swap_les {b:Bool} {op:Int} {set pre mid post l mn mx mode n neg} (ho:op=2∨op=3) (hmid:mid≠[]) (hL:pre ++ (l ++ post)≠[]) (hm:leafTs l < leafTs mid∨(leafTs l=leafTs mid∧(sizeTs l < sizeTs mid∨(sizeTs l≤sizeTs mid∧b=true)))) (hu:Sub8 (usesL l) (usesL mid))
  (hn:(op=2→nullAll l=nullAll mid)∧(op=3→nullAny pre=true∨nullAny l=nullAny mid)) (hc:∀ n∈capsTs l,n∈capsTs mid):Les b (.node op set (pre ++ (mid ++ post)) mn mx mode n neg) (naryT op (pre ++ (l ++ post))):=by
 refine nary_les ho (by simp [hmid]) hL ?_ ?_ ⟨fun h=> ?_,fun h=> ?_⟩ ?_
 ·simp only [leafTs_append,sizeTs_append]
  rcases hm with h | ⟨h,h1 | ⟨h1,h2⟩⟩
  ·exact .inl (by omega)
  ·exact .inr ⟨by omega,.inl (by omega)⟩
  ·exact .inr ⟨by omega,.inr ⟨by omega,h2⟩⟩
 ·simp only [usesL_append];exact ((Sub8.refl _).left _).or (((hu.left _).or ((Sub8.refl _).right _)).right _)
 ·simp only [nullAll_append,hn.1 h]
 ·simp only [nullAny_append]
  rcases hn.2 h with h1 | h1
  ·simp [h1]
  ·rw [h1]
 ·intro x hx;simp only [capsTs_append,List.mem_append] at hx ⊢
  rcases hx with h | h | h
  ·exact .inl h
  ·exact .inr (.inl (hc x h))
  ·exact .inr (.inr h)
theorem kids_cut {l:List Tree} {i:Nat} (h:i < l.length):l=l.take i ++ ([l[i]] ++ l.drop (i + 1)):=by
 rw [List.singleton_append,←List.drop_eq_getElem_cons h,List.take_append_drop]
theorem kids_cut2 {l:List Tree} {i:Nat} (h:i + 1 < l.length):l=l.take i ++ ([l[i],l[i + 1]] ++ l.drop (i + 2)):=by
 have h1:l.drop i=l[i]::l[i + 1]::l.drop (i + 2):=by rw [List.drop_eq_getElem_cons (by omega),List.drop_eq_getElem_cons (i:=i + 1) (by omega)]
 show l=l.take i ++ (l[i]::l[i + 1]::l.drop (i + 2))
 rw [←h1,List.take_append_drop]
theorem getD_at {l:List Tree} {i:Nat} (h:i < l.length):l.getD i .nil=l[i]:=by rw [List.getD_eq_getElem?_getD,List.getElem?_eq_getElem h,Option.getD_some]
theorem inline_les {o:Int} (ho:o=2∨o=3) {t y:Tree} (f:t.WF) (h:inlineR o t=some y):Les false t y:=by
 unfold inlineR at h
 split at h
 ·rename_i hop
  obtain ⟨i,hi,rfl⟩:=Option.map_eq_some_iff.1 h;obtain ⟨hlt,hp,_⟩:=List.findIdx?_eq_some_iff_getElem.1 hi
  cases t with
  | node op set kids mn mx mode n neg=>
   simp only [Tree.kids] at hlt hp ⊢;simp only [Tree.op] at hop ⊢;subst hop;have hp:kids[i].op=op:=by simpa using hp
   rw [getD_at hlt,swapT];have fk:=f.kid (List.getElem_mem hlt);have hcut:=kids_cut hlt
   generalize kids[i]=k at *
   cases k with
   | node op2 set2 kids2 mn2 mx2 mode2 n2 neg2=>
    simp only [Tree.op] at hp;subst hp;have h2:=fk.node.htwo ho;have hne:kids2≠[]:=fun h=> by rw [h] at h2;simp at h2
    have hgoal:=swap_les (b:=false) (op:=op2) (set:=set) (pre:=kids.take i) (mid:=[.node op2 set2 kids2 mn2 mx2 mode2 n2 neg2]) (post:=kids.drop (i + 1)) (l:=kids2) (mn:=mn) (mx:=mx) (mode:=mode) (n:=n) (neg:=neg) ho (by simp) (by simp [hne])
     (.inr ⟨by simp only [leafTs,leafT_node hne];omega,.inl (by simp only [sizeTs,sizeT];omega)⟩) (by simp only [usesL,uses_23 ho,Nat.or_zero];exact Sub8.refl _)
     ⟨fun h=> by subst h;simp [nullAll,null_2],fun h=> by subst h;right;simp [nullAny,null_3]⟩ (by simp only [capsTs,caps_n5 (show op2≠5 by omega),List.append_nil];exact fun _ h=> h)
    rw [←hcut] at hgoal;exact hgoal
 ·cases h
theorem out_les {kids:List Tree} {set mn mx mode n neg} {i:Nat} (f:(Tree.node 2 set kids mn mx mode n neg).WF) (h:i < kids.length) (hn:nullP kids[i]=true):Les false (.node 2 set kids mn mx mode n neg) (swapT 2 kids i (i + 1) []):=by
 have h2:=f.node.htwo (.inl rfl);have hne:kids.take i ++ ([] ++ kids.drop (i + 1))≠[]:=fun h=> by
  have:=congrArg List.length h
  simp only [List.length_append,List.length_take,List.length_drop,List.length_nil] at this;omega
 have hgoal:=swap_les (b:=false) (op:=2) (set:=set) (pre:=kids.take i) (mid:=[kids[i]]) (post:=kids.drop (i + 1)) (l:=[]) (mn:=mn) (mx:=mx) (mode:=mode) (n:=n) (neg:=neg) (.inl rfl) (by simp) hne
  (.inl (by have:=leafT_pos kids[i];simp only [leafTs];omega)) (Sub8.zero _) ⟨fun _=> by simp [nullAll,hn],fun h=> by omega⟩ (by simp [capsTs])
 rw [←kids_cut h] at hgoal;exact hgoal
theorem unit_les {t y:Tree} (f:t.WF) (h:unitR t=some y):Les false t y:=by
 unfold unitR at h
 split at h
 ·rename_i hop
  obtain ⟨i,hi,rfl⟩:=Option.map_eq_some_iff.1 h;obtain ⟨hlt,hp,_⟩:=List.findIdx?_eq_some_iff_getElem.1 hi
  cases t with
  | node op set kids mn mx mode n neg=>
   simp only [Tree.kids] at hlt hp ⊢;simp only [Tree.op] at hop;subst hop;refine out_les f hlt ?_;have hp:kids[i].op=0:=by simpa using hp
   generalize kids[i]=k at *
   cases k with
   | node op2 set2 kids2 mn2 mx2 mode2 n2 neg2=> simp only [Tree.op] at hp;subst hp;simp [nullP]
 ·cases h
theorem twinO_some:∀ (l seen:List Tree) (i:Nat),twinO seen l=some i→∃ h:i < l.length,∃ o∈seen ++ l.take i,o=l[i]:=by
 intro l
 induction l with
 | nil=> intro seen i h;simp [twinO] at h
 | cons k ks ih=>
  intro seen i h;rw [twinO] at h
  split at h
  ·rename_i hs
   cases h
   obtain ⟨o,ho,he⟩:=List.any_eq_true.1 hs;exact ⟨by simp,o,by simpa using ho,(eqB_iff o k).1 he⟩
  ·obtain ⟨j,hj,rfl⟩:=Option.map_eq_some_iff.1 h;obtain ⟨hl,o,ho,he⟩:=ih _ _ hj;exact ⟨by simpa using hl,o,by simpa using ho,by simpa using he⟩
theorem nullAny_mem {l:List Tree} {o:Tree} (h:o∈l) (hn:nullP o=true):nullAny l=true:=by
 induction l with
 | nil=> simp at h
 | cons x r ih=>
  rcases List.mem_cons.1 h with rfl | h
  ·simp [nullAny,hn]
  ·simp [nullAny,ih h]
theorem twin_les {t y:Tree} (f:t.WF) (h:twinR t=some y):Les false t y:=by
 unfold twinR at h
 split at h
 ·rename_i hop
  obtain ⟨i,hi,rfl⟩:=Option.map_eq_some_iff.1 h
  cases t with
  | node op set kids mn mx mode n neg=>
   simp only [Tree.kids,Tree.op] at hi hop ⊢;subst hop;obtain ⟨hlt,o,ho,he⟩:=twinO_some _ _ _ hi;simp only [List.nil_append] at ho;have h2:=f.node.htwo (.inr rfl);have hne:kids.take i ++ ([] ++ kids.drop (i + 1))≠[]:=fun h=> by
    have:=congrArg List.length h
    simp only [List.length_append,List.length_take,List.length_drop,List.length_nil] at this;omega
   have hgoal:=swap_les (b:=false) (op:=3) (set:=set) (pre:=kids.take i) (mid:=[kids[i]]) (post:=kids.drop (i + 1)) (l:=[]) (mn:=mn) (mx:=mx) (mode:=mode) (n:=n) (neg:=neg) (.inr rfl) (by simp) hne
    (.inl (by have:=leafT_pos kids[i];simp only [leafTs];omega)) (Sub8.zero _) ⟨fun h=> by omega,fun _=> by
     cases hn:nullP kids[i] with
     | true=> left;exact nullAny_mem ho (by rw [he,hn])
     | false=> right;simp [nullAny,hn]⟩ (by simp [capsTs])
   rw [←kids_cut hlt] at hgoal;exact hgoal
 ·cases h
theorem two_les {op:Int} (ho:op=2∨op=3) {kids:List Tree} {set mn mx mode n neg} {i:Nat} (h:i + 1 < kids.length) {z:Tree} (hm:leafT z < leafT kids[i] + leafT kids[i + 1]) (hu:Sub8 (usesT z) (usesT kids[i] ||| usesT kids[i + 1]))
  (hn:(op=2→nullP z=(nullP kids[i] && nullP kids[i + 1]))∧(op=3→nullP z=(nullP kids[i] || nullP kids[i + 1]))) (hc:∀ n∈capsT z,n∈capsT kids[i]∨n∈capsT kids[i + 1]):Les false (.node op set kids mn mx mode n neg) (swapT op kids i (i + 2) [z]):=by
 have hgoal:=swap_les (b:=false) (op:=op) (set:=set) (pre:=kids.take i) (mid:=[kids[i],kids[i + 1]]) (post:=kids.drop (i + 2)) (l:=[z]) (mn:=mn) (mx:=mx) (mode:=mode) (n:=n) (neg:=neg) ho (by simp) (by simp)
  (.inl (by simp only [leafTs];omega)) (by simpa [usesL] using hu) ⟨fun h=> by simp [nullAll,hn.1 h],fun h=> by right;simp [nullAny,hn.2 h]⟩ (by simpa [capsTs] using hc)
 rw [←kids_cut2 h] at hgoal;exact hgoal
theorem cons_of {op:Int} {t:Tree} (f:t.WF) (h:t.op=op) (ho:op=2∨op=3):∃ set x r mn mx mode n neg,t=.node op set (x::r) mn mx mode n neg∧r≠[]:=by
 cases t with
 | node op2 set kids mn mx mode n neg=>
  simp only [Tree.op] at h;subst h;have h2:=f.node.htwo ho
  match kids,h2 with
  | x::y::r,_=> exact ⟨set,x,y::r,mn,mx,mode,n,neg,rfl,by simp⟩
theorem head_les {t y:Tree} (f:t.WF) (h:headR t=some y):Les false t y:=by
 unfold headR at h;obtain ⟨i,hi,rfl⟩:=Option.map_eq_some_iff.1 h;obtain ⟨hop,hlt,hp⟩:=pairO_some hi
 cases t with
 | node op set kids mn mx mode n neg=>
  simp only [Tree.kids,Tree.op] at hlt hop hp ⊢;subst hop;rw [getD_at (show i < kids.length by omega),getD_at hlt] at hp ⊢;have fa:=f.kid (List.getElem_mem (show i < kids.length by omega));have fb:=f.kid (List.getElem_mem hlt);simp only [headP,Bool.and_eq_true,beq_iff_eq] at hp;obtain ⟨ha,hb,_,he⟩:=hp;obtain ⟨s1,a0,ar,q1,q2,q3,q4,q5,ea,hra⟩:=cons_of fa ha (.inl rfl);obtain ⟨s2,b0,br,p1,p2,p3,p4,p5,eb,hrb⟩:=cons_of fb hb (.inl rfl);rw [ea,eb] at he;have hab:a0=b0:=(eqB_iff a0 b0).1 he;subst hab;obtain ⟨m1,_,m3,m4,m5⟩:=nary_me (.inl rfl:(2:Int)=2∨(2:Int)=3) hra;obtain ⟨n1,_,n3,n4,n5⟩:=nary_me (.inl rfl:(2:Int)=2∨(2:Int)=3) hrb;rw [if_pos rfl] at m5 n5;refine two_les (.inr rfl) hlt ?_ ?_ ⟨fun h=> by omega,fun _=> ?_⟩ ?_
  all_goals rw [ea,eb]
  all_goals simp only [List.getD_cons_zero,List.drop_succ_cons,List.drop_zero,mkT]
  ·rw [leafT_node (by simp),leafT_node (by simp),leafT_node (by simp)];simp only [leafTs,leafT_node (show [naryT 2 ar,naryT 2 br]≠[] by simp),m1,n1]
   have:=leafT_pos a0
   omega
  ·rw [uses_23 (.inl rfl),uses_23 (.inl rfl),uses_23 (.inl rfl)];simp only [usesL,uses_23 (.inr rfl),m3,n3,Nat.or_zero];intro i h;simp only [Nat.testBit_or] at *
   grind
  ·rw [null_2,null_2,null_2];simp only [nullAll,null_3,nullAny,m5,n5]
   grind
  ·intro x hx;rw [caps_n5 (by decide)] at hx;rw [caps_n5 (by decide),caps_n5 (by decide)];simp only [capsTs,caps_n5 (show (3:Int)≠5 by decide),m4,n4,List.append_nil,List.mem_append] at hx ⊢
   grind
theorem snoc_of {op:Int} {t:Tree} (f:t.WF) (h:t.op=op) (ho:op=2∨op=3):∃ set r x mn mx mode n neg,t=.node op set (r ++ [x]) mn mx mode n neg∧r≠[]:=by
 cases t with
 | node op2 set kids mn mx mode n neg=>
  simp only [Tree.op] at h;subst h;have h2:=f.node.htwo ho;have hne:kids≠[]:=fun h=> by rw [h] at h2;simp at h2
  refine ⟨set,kids.dropLast,kids.getLast hne,mn,mx,mode,n,neg,by rw [List.dropLast_concat_getLast],fun h=> ?_⟩
  have:=congrArg List.length h
  simp at this;omega
theorem tail_les {t y:Tree} (f:t.WF) (h:tailR t=some y):Les false t y:=by
 unfold tailR at h;obtain ⟨i,hi,rfl⟩:=Option.map_eq_some_iff.1 h;obtain ⟨hop,hlt,hp⟩:=pairO_some hi
 cases t with
 | node op set kids mn mx mode n neg=>
  simp only [Tree.kids,Tree.op] at hlt hop hp ⊢;subst hop;rw [getD_at (show i < kids.length by omega),getD_at hlt] at hp ⊢;have fa:=f.kid (List.getElem_mem (show i < kids.length by omega));have fb:=f.kid (List.getElem_mem hlt);simp only [tailP,Bool.and_eq_true,beq_iff_eq] at hp;obtain ⟨ha,hb,he⟩:=hp;obtain ⟨s1,ar,a0,q1,q2,q3,q4,q5,ea,hra⟩:=snoc_of fa ha (.inl rfl);obtain ⟨s2,br,b0,p1,p2,p3,p4,p5,eb,hrb⟩:=snoc_of fb hb (.inl rfl);have hla:lastT kids[i]=a0:=by rw [ea];simp [lastT,Tree.kids]
  have hlb:lastT kids[i + 1]=b0:=by rw [eb];simp [lastT,Tree.kids]
  rw [hla,hlb] at he;have hab:a0=b0:=(eqB_iff a0 b0).1 he;subst hab;obtain ⟨m1,_,m3,m4,m5⟩:=nary_me (.inl rfl:(2:Int)=2∨(2:Int)=3) hra;obtain ⟨n1,_,n3,n4,n5⟩:=nary_me (.inl rfl:(2:Int)=2∨(2:Int)=3) hrb;rw [if_pos rfl] at m5 n5;rw [hla];refine two_les (.inr rfl) hlt ?_ ?_ ⟨fun h=> by omega,fun _=> ?_⟩ ?_
  all_goals rw [ea,eb]
  all_goals simp only [List.length_append,List.length_cons,List.length_nil,Nat.zero_add,Nat.add_sub_cancel,List.take_left,mkT]
  ·rw [leafT_node (by simp),leafT_node (by simp),leafT_node (by simp)];simp only [leafTs,leafTs_append,leafT_node (show [naryT 2 ar,naryT 2 br]≠[] by simp),m1,n1]
   have:=leafT_pos a0
   omega
  ·rw [uses_23 (.inl rfl),uses_23 (.inl rfl),uses_23 (.inl rfl)];simp only [usesL,usesL_append,uses_23 (.inr rfl),m3,n3,Nat.or_zero];intro i h;simp only [Nat.testBit_or] at *
   grind
  ·rw [null_2,null_2,null_2];simp only [nullAll,nullAll_append,null_3,nullAny,m5,n5]
   grind
  ·intro x hx;rw [caps_n5 (by decide)] at hx;rw [caps_n5 (by decide),caps_n5 (by decide)];simp only [capsTs,capsTs_append,caps_n5 (show (3:Int)≠5 by decide),m4,n4,List.append_nil,List.mem_append] at hx ⊢
   grind
theorem set_of {t:Tree} (f:t.WF) (h:t.op=1):leafT t=1∧usesT t=0∧nullP t=false∧capsT t=[]:=by
 cases t with
 | node op set kids mn mx mode n neg=>
  simp only [Tree.op] at h;subst h;have hk:kids=[]:=List.eq_nil_of_length_eq_zero (f.node.hleaf (.inr (.inl rfl)));subst hk;refine ⟨by simp [leafT],by simp [usesT,usesOfT,usesL],by simp [nullP],by simp [capsT,capsTs]⟩
theorem union_les {t y:Tree} (f:t.WF) (h:unionR t=some y):Les false t y:=by
 unfold unionR at h;obtain ⟨i,hi,rfl⟩:=Option.map_eq_some_iff.1 h;obtain ⟨hop,hlt,hp⟩:=pairO_some hi
 cases t with
 | node op set kids mn mx mode n neg=>
  simp only [Tree.kids] at hlt hp ⊢;simp only [Tree.op] at hop ⊢;subst hop;rw [getD_at (show i < kids.length by omega),getD_at hlt] at hp;simp only [uT,Bool.and_eq_true,beq_iff_eq] at hp;obtain ⟨a1,a2,a3,a4⟩:=set_of (f.kid (List.getElem_mem (show i < kids.length by omega))) hp.1;obtain ⟨b1,b2,b3,b4⟩:=set_of (f.kid (List.getElem_mem hlt)) hp.2.1;refine two_les (.inr rfl) hlt ?_ ?_ ⟨fun h=> by omega,fun _=> ?_⟩ ?_
  ·rw [a1,b1];simp [leafT]
  ·rw [show usesT (Tree.node 1 (unionP (kids.getD i .nil).set (kids.getD (i + 1) .nil).set) [] 0 0 0 0 false)=0 by simp [usesT,usesOfT,usesL]];exact Sub8.zero _
  ·rw [a3,b3];simp [nullP]
  ·simp [capsT,capsTs]
theorem one_of {op:Int} {set kids mn mx mode n neg} (f:(Tree.node op set kids mn mx mode n neg).WF) (ho:op=4∨op=5∨op=7∨op=8∨op=9):∃ k,kids=[k]∧k.WF:=by
 have h:=f.node.hone ho
 match kids,h with
 | [k],_=> exact ⟨k,rfl,f.kid (by simp)⟩
theorem once_les {t y:Tree} (f:t.WF) (h:onceR t=some y):Les false t y:=by
 cases t with
 | node op set kids mn mx mode n neg=>
  rw [onceR] at h
  split at h
  ·rename_i hc
   obtain ⟨rfl,rfl,rfl,_⟩:=hc;obtain ⟨k,rfl,_⟩:=one_of f (.inl rfl)
   cases h
   refine ⟨.inr ⟨by simp [leafT,leafTs],.inl (by simp only [List.getD_cons_zero,sizeT,sizeTs];omega)⟩,?_,by simp [nullP,nullAny],by simp [capsT,capsTs]⟩;simp only [usesT,usesL,Nat.or_zero];exact (Sub8.refl _).right _
  ·cases h
theorem loose_les {t y:Tree} (f:t.WF) (h:looseR t=some y):Les false t y:=by
 cases t with
 | node op set kids mn mx mode n neg=>
  rw [looseR] at h
  split at h
  ·rename_i hc
   obtain ⟨rfl,_⟩:=hc;obtain ⟨k,rfl,_⟩:=one_of f (.inr (.inr (.inr (.inr rfl))))
   cases h
   refine ⟨.inr ⟨by simp [leafT,leafTs],.inl (by simp only [List.getD_cons_zero,sizeT,sizeTs];omega)⟩,?_,by simp [nullP,nullAny],by simp [capsT,capsTs]⟩;simp only [usesT,usesL,Nat.or_zero];exact (Sub8.refl _).right _
  ·cases h
theorem held_me (k:Tree):leafT (heldT k)=leafT k∧sizeT (heldT k)=sizeT k∧Sub8 (usesT (heldT k)) (usesT k)∧nullP (heldT k)=nullP k∧capsT (heldT k)=capsT k:=by
 cases k with
 | node op set kids mn mx mode n neg=>
  refine ⟨by simp only [heldT,leafT],by simp only [heldT,sizeT],?_,by simp only [heldT,nullP],by simp only [heldT,capsT]⟩;simp only [heldT,usesT];refine Sub8.or ?_ ((Sub8.refl _).right _)
  by_cases h:op=4
  ·subst h;simp only [usesOfT];intro i hi;simp only [Nat.testBit_or] at *;simp only [Int.reduceEq,or_self,if_false,if_true,Nat.testBit_or] at hi ⊢
   grind
  ·refine Sub8.left ?_ _;rw [show usesOfT (.node op set kids mn mx 2 n neg)=usesOfT (.node op set kids mn mx mode n neg) by simp only [usesOfT,h,if_false]];exact Sub8.refl _
theorem own_les {t y:Tree} (f:t.WF) (h:ownR t=some y):Les false t y:=by
 cases t with
 | node op set kids mn mx mode n neg=>
  rw [ownR] at h
  split at h
  ·rename_i hc
   obtain ⟨rfl,_,_⟩:=hc;obtain ⟨k,rfl,_⟩:=one_of f (.inr (.inr (.inr (.inr rfl))))
   cases h
   obtain ⟨h1,h2,h3,h4,h5⟩:=held_me k;refine ⟨.inr ⟨by simp [leafT,leafTs,h1],.inl (by simp only [List.getD_cons_zero,h2,sizeT,sizeTs];omega)⟩,?_,by simp [nullP,nullAny,h4],by simp [capsT,capsTs,h5]⟩;simp only [List.getD_cons_zero];simp only [usesT,usesL,Nat.or_zero];exact h3.right _
  ·cases h
theorem sure_les {t y:Tree} (f:t.WF) (h:sureR t=some y):Les false t y:=by
 cases t with
 | node op set kids mn mx mode n neg=>
  rw [sureR] at h
  split at h
  ·rename_i hc
   obtain ⟨rfl,_,_⟩:=hc;obtain ⟨k,rfl,_⟩:=one_of f (.inr (.inr (.inl rfl)))
   cases h
   have h1:=leafT_pos k;have h2:=sizeT_pos k;refine ⟨?_,?_,by simp [nullP,Tree.nil],by simp [capsT,capsTs,Tree.nil]⟩
   ·simp only [Tree.nil,leafT,leafTs,sizeT,sizeTs,List.isEmpty_nil,List.isEmpty_cons,Bool.false_eq_true,if_false,if_true];omega
   ·rw [show usesT Tree.nil=0 by simp [Tree.nil,usesT,usesOfT,usesL]];exact Sub8.zero _
  ·cases h
theorem peel_les {t y:Tree} (f:t.WF) (h:peelR t=some y):Les false t y:=by
 cases t with
 | node op set kids mn mx mode n neg=>
  rw [peelR] at h
  split at h
  ·rename_i hc
   obtain ⟨rfl,_,hc2,_,_⟩:=hc;obtain ⟨k,rfl,fk⟩:=one_of f (.inr (.inr (.inl rfl)))
   cases h
   simp only [List.getD_cons_zero] at hc2 ⊢;obtain ⟨s1,ar,a0,q1,q2,q3,q4,q5,rfl,hra⟩:=snoc_of fk hc2 (.inl rfl);obtain ⟨m1,_,m3,m4,m5⟩:=nary_me (.inl rfl:(2:Int)=2∨(2:Int)=3) hra;have ht:(ar ++ [a0]).take ((ar ++ [a0]).length - 1)=ar:=by simp
   refine ⟨.inl ?_,?_,by simp [mkT,nullP],?_⟩
   ·simp only [Tree.kids,ht,mkT];rw [leafT_node (by simp),leafT_node (by simp)];simp only [leafTs];rw [leafT_node (by simp),leafTs_append,m1]
    have:=leafT_pos a0
    simp only [leafTs];omega
   ·simp only [Tree.kids,ht,mkT,usesT,usesL,usesOfT,Int.reduceEq,or_false,if_false,if_true,m3,usesL_append];intro i h;simp only [Nat.testBit_or] at *
    grind
   ·simp only [Tree.kids,ht,mkT,capsT,capsTs,m4,capsTs_append];intro x hx;simp only [Int.reduceEq,if_false,List.nil_append,List.append_nil,List.mem_append] at hx ⊢;exact .inl hx
  ·cases h
theorem holdO_lt:∀ {l:List Tree} {i:Nat},holdO l=some i→i < l.length:=by
 intro l
 induction l with
 | nil=> intro i h;simp [holdO] at h
 | cons x r ih=>
  intro i h;rw [holdO] at h
  split at h
  ·cases h;simp
  ·obtain ⟨j,hj,rfl⟩:=Option.map_eq_some_iff.1 h
   have:=ih hj
   simpa using this
theorem hold_les {t y:Tree} (f:t.WF) (h:holdR t=some y):Les true t y:=by
 cases t with
 | node op set kids mn mx mode n neg=>
  rw [holdR] at h
  split at h
  ·rename_i hop
   subst hop;obtain ⟨i,hi,rfl⟩:=Option.map_eq_some_iff.1 h;have hlt:i < kids.length:=holdO_lt hi;rw [getD_at hlt];obtain ⟨h1,h2,h3,h4,h5⟩:=held_me kids[i];have hgoal:=swap_les (b:=true) (op:=2) (set:=set) (pre:=kids.take i) (mid:=[kids[i]]) (post:=kids.drop (i + 1)) (l:=[heldT kids[i]]) (mn:=mn) (mx:=mx) (mode:=mode) (n:=n) (neg:=neg) (.inl rfl) (by simp) (by simp)
    (.inr ⟨by simp only [leafTs,h1],.inr ⟨by simp only [sizeTs,h2];omega,rfl⟩⟩) (by simpa [usesL] using h3) ⟨fun _=> by simp [nullAll,h4],fun h=> by omega⟩ (by simp [capsTs,h5])
   rw [←kids_cut hlt] at hgoal;exact hgoal
  ·cases h
theorem star_null {x:Tree} (h:x.op=4) (h0:x.mn=0):nullP x=true:=by
 cases x with
 | node op set kids mn mx mode n neg=>
  simp only [Tree.op] at h;simp only [Tree.mn] at h0;subst h;subst h0;simp [nullP]
theorem drop_les {p:Tree→Tree→Bool} (hp:∀ x y,p x y=true→nullP x=true) {t y:Tree} (f:t.WF) (h:dropR p t=some y):Les false t y:=by
 unfold dropR at h;obtain ⟨i,hi,rfl⟩:=Option.map_eq_some_iff.1 h;obtain ⟨hop,hlt,hq⟩:=pairO_some hi
 cases t with
 | node op set kids mn mx mode n neg=>
  simp only [Tree.kids] at hlt hq ⊢;simp only [Tree.op] at hop ⊢;subst hop;rw [getD_at (show i < kids.length by omega)] at hq;exact out_les f (by omega) (hp _ _ hq)
theorem stars_null (x y:Tree) (h:starsP x y=true):nullP x=true:=by
 simp only [starsP,starB,greedyB,Bool.and_eq_true,beq_iff_eq] at h;exact star_null h.1.1 h.1.2.2.1
theorem maybe_null (x y:Tree) (h:maybeP x y=true):nullP x=true:=by
 simp only [maybeP,greedyB,Bool.and_eq_true,beq_iff_eq] at h;exact star_null h.1.1 h.1.2.2.1
theorem rep_uses (set kids mn mx mode n neg):usesOfT (.node 4 set kids mn mx mode n neg)=(if mode=2 then 8 else 0) ||| (if hdNull kids=true then 32 else 0):=by simp [usesOfT]
theorem gsB_parts {t:Tree} (h:gsB t=true):t.op=4∧t.mode=0∧(t.mn=0∨t.mn=1):=by
 simp only [gsB,starB,greedyB,Bool.or_eq_true,Bool.and_eq_true,beq_iff_eq] at h
 rcases h with h | h
 ·exact ⟨h.1,h.2.1,.inl h.2.2.1⟩
 ·exact ⟨h.1,h.2.1,.inr h.2.2.1⟩
theorem null_4 (set k mn mx mode n neg):nullP (.node 4 set [k] mn mx mode n neg)=(decide (mn=0) || nullP k):=by
 by_cases h:mn=0
 ·simp [nullP,h]
 ·simp [nullP,h,nullAny]
theorem nest_les {t y:Tree} (f:t.WF) (h:nestR t=some y):Les false t y:=by
 cases t with
 | node op set kids mn mx mode n neg=>
  rw [nestR] at h
  split at h
  ·rename_i hc
   obtain ⟨h1,h2,h3⟩:=hc;obtain ⟨a1,a2,a3⟩:=gsB_parts h1;simp only [Tree.op] at a1;simp only [Tree.mode] at a2;simp only [Tree.mn] at a3;subst a1 a2;obtain ⟨k,rfl,fk⟩:=one_of f (.inl rfl);simp only [List.getD_cons_zero] at h h2 h3;obtain ⟨b1,b2,b3⟩:=gsB_parts h2
   cases k with
   | node op2 set2 kids2 mn2 mx2 mode2 n2 neg2=>
    simp only [Tree.op] at b1;simp only [Tree.mode] at b2;simp only [Tree.mn] at b3;subst b1 b2;obtain ⟨j,rfl,_⟩:=one_of fk (.inl rfl);simp only [Tree.kids,List.getD_cons_zero] at h3
    cases h
    simp only [Tree.kids,Tree.mn];refine ⟨.inr ⟨by simp [leafT,leafTs],.inl (by simp only [sizeT,sizeTs];omega)⟩,?_,?_,by simp [capsT,capsTs]⟩
    ·simp only [usesT,rep_uses,usesL,hdNull,h3];intro i h;simp only [Nat.testBit_or] at *
     grind
    ·rw [null_4,null_4,null_4,h3]
     rcases a3 with rfl | rfl <;> rcases b3 with rfl | rfl <;> rfl
  ·cases h
theorem plus_les {t y:Tree} (f:t.WF) (h:plusR t=some y):Les false t y:=by
 unfold plusR at h;obtain ⟨i,hi,rfl⟩:=Option.map_eq_some_iff.1 h;obtain ⟨hop,hlt,hq⟩:=pairO_some hi
 cases t with
 | node op set kids mn mx mode n neg=>
  simp only [Tree.kids] at hlt hq ⊢;simp only [Tree.op] at hop ⊢;subst hop;rw [getD_at (show i < kids.length by omega)] at hq ⊢;rw [getD_at hlt] at hq;simp only [plusP,Bool.and_eq_true] at hq;obtain ⟨hs,he⟩:=hq;have hx:=(eqB_iff _ _).1 he;have fb:=f.kid (List.getElem_mem hlt);simp only [starB,greedyB,Bool.and_eq_true,beq_iff_eq] at hs;obtain ⟨s1,s2,s3,s4⟩:=hs;have hz:=star_null s1 s3;obtain ⟨set2,k,n2,neg2,hy⟩:∃ set2 k n2 neg2,kids[i + 1]=.node 4 set2 [k] 0 (-1) 0 n2 neg2:=by
   generalize kids[i + 1]=z at *
   cases z with
   | node op2 set2 kids2 mn2 mx2 mode2 n2 neg2=>
    simp only [Tree.op] at s1;simp only [Tree.mn] at s3;simp only [Tree.mx] at s4;simp only [Tree.mode] at s2;subst s1 s2 s3 s4;obtain ⟨k,rfl,_⟩:=one_of fb (.inl rfl);exact ⟨_,k,_,_,rfl⟩
  have hk:kids[i]=k:=by rw [hx,hy];rfl
  have hgoal:=two_les (op:=2) (.inl rfl) (set:=set) (mn:=mn) (mx:=mx) (mode:=mode) (n:=n) (neg:=neg) hlt (z:=.node 4 [] [kids[i]] 1 (-1) 0 0 false) (by
    rw [leafT_node (by simp)]
    have:=leafT_pos kids[i + 1]
    simp only [leafTs]
    omega) (by
    rw [hy,hk];simp only [usesT,rep_uses,usesL,hdNull];intro i h;simp only [Nat.testBit_or] at *
    grind) ⟨fun _=> by rw [hz];simp [nullP,nullAny],fun h=> by omega⟩ (by
    intro x hx;simp only [capsT,capsTs,Int.reduceEq,if_false,List.nil_append,List.append_nil] at hx;exact .inl hx)
  exact hgoal
theorem rule_les {r:Nat} (hr:r < 17) {t y:Tree} (f:t.WF) (h:ruleR r t=some y):Les (decide (r=12)) t y:=by
 obtain rfl | rfl | rfl | rfl | rfl | rfl | rfl | rfl | rfl | rfl | rfl | rfl | rfl | rfl | rfl | rfl | rfl:r=0∨r=1∨r=2∨r=3∨r=4∨r=5∨r=6∨r=7∨r=8∨r=9∨r=10∨r=11∨r=12∨r=13∨r=14∨r=15∨r=16:=by omega
 ·exact inline_les (.inl rfl) f h
 ·exact inline_les (.inr rfl) f h
 ·exact unit_les f h
 ·exact twin_les f h
 ·exact head_les f h
 ·exact tail_les f h
 ·exact union_les f h
 ·exact once_les f h
 ·exact nest_les f h
 ·exact drop_les stars_null f h
 ·exact drop_les maybe_null f h
 ·exact plus_les f h
 ·exact hold_les f h
 ·exact peel_les f h
 ·exact sure_les f h
 ·exact loose_les f h
 ·exact own_les f h
theorem ctx_les {b:Bool} {op:Int} {set pre post mn mx mode n neg} {x y:Tree} (h:Les b x y):Les b (.node op set (pre ++ (x::post)) mn mx mode n neg) (.node op set (pre ++ (y::post)) mn mx mode n neg):=by
 have hd:∀ l:List Tree,hdNull (pre ++ (y::l))=hdNull (pre ++ (x::l)):=fun l=> by cases pre <;> simp [hdNull,h.nu]
 have ha:nullAll (pre ++ (y::post))=nullAll (pre ++ (x::post)):=by simp only [nullAll_append,nullAll,h.nu]
 have hb:nullAny (pre ++ (y::post))=nullAny (pre ++ (x::post)):=by simp only [nullAny_append,nullAny,h.nu]
 refine ⟨?_,?_,by simp only [nullP,ha,hb],?_⟩
 ·rw [leafT_node (by simp),leafT_node (by simp)];simp only [sizeT,leafTs_append,sizeTs_append,leafTs,sizeTs]
  rcases h.me with h | ⟨h,h1 | ⟨h1,h2⟩⟩
  ·exact .inl (by omega)
  ·exact .inr ⟨by omega,.inl (by omega)⟩
  ·exact .inr ⟨by omega,.inr ⟨by omega,h2⟩⟩
 ·simp only [usesT,usesL_append,usesL];rw [show usesOfT (.node op set (pre ++ (y::post)) mn mx mode n neg)=usesOfT (.node op set (pre ++ (x::post)) mn mx mode n neg) by simp only [usesOfT,hd]];exact ((Sub8.refl _).left _).or ((((Sub8.refl _).left _).or (((h.us.left _).or ((Sub8.refl _).right _)).right _)).right _)
 ·intro z hz;simp only [capsT,capsTs_append,capsTs,List.mem_append] at hz ⊢
  have:=h.ca z
  grind
theorem put_les {b:Bool} {y:Tree}:∀ (p:List Int) {t x t':Tree},atT t p=some x→putT t p y=some t'→Les b x y→Les b t t':=by
 intro p
 induction p with
 | nil=> intro t x t' h1 h2 h;cases h1;cases h2;exact h
 | cons i r ih=>
  intro t x t' h1 h2 h;rw [atT] at h1;rw [putT] at h2
  split at h1
  ·rename_i hi
   rw [if_pos hi] at h2;obtain ⟨k,hk,rfl⟩:=Option.map_eq_some_iff.1 h2
   cases t with
   | node op set kids mn mx mode n neg=>
    simp only [Tree.kids] at hi h1 hk ⊢;have hlt:i.toNat < kids.length:=by omega
    rw [getD_at hlt] at h1 hk;have hl:=ih h1 hk h;have hg:=ctx_les (op:=op) (set:=set) (pre:=kids.take i.toNat) (post:=kids.drop (i.toNat + 1)) (mn:=mn) (mx:=mx) (mode:=mode) (n:=n) (neg:=neg) hl;rw [List.getElem_cons_drop,List.take_append_drop] at hg;exact hg
  ·cases h1
theorem step_les {t:Tree} {cp:Int} {ru:Bool} {r:Int} {p:List Int} {t':Tree} (h:(stepR t cp ru r p).2=some t'):Les (decide (r=12)) t t':=by
 unfold stepR at h
 split at h
 ·rename_i hv
  split at h
  ·rename_i hr
   have f:=(valid_ok hv).1
   cases ha:atT t p with
   | none=> rw [ha] at h;simp [stepA] at h
   | some x=>
    rw [ha] at h;simp only [stepA] at h
    cases hy:ruleR r.toNat x with
    | none=> rw [hy] at h;simp [stepB] at h
    | some y=>
     rw [hy] at h;simp only [stepB] at h;have hl:=rule_les (by omega) (atT_ok p f ha).1 hy;have hd:decide (r.toNat=12)=decide (r=12):=by
      congr 1
      exact propext ⟨fun h=> by omega,fun h=> by omega⟩
     rw [hd] at hl
     split at h
     ·simp only [putV] at h
      cases hp:putT t p y with
      | none=> rw [hp] at h;simp at h
      | some z=>
       rw [hp] at h;simp only at h
       split at h
       ·cases h;exact put_les p ha hp hl
       ·cases h
     ·cases h
  ·cases h
 ·cases h
theorem stepsAt_mem {t:Tree} {cp:Int} {ru:Bool} {p:List Int} {s:Int × List Int}:∀ k,s∈stepsAt t cp ru p k→∃ r < k,s=((r:Int),p)∧okStep t cp ru p r=true:=by
 intro k
 induction k with
 | zero=> intro h;simp [stepsAt] at h
 | succ k ih=>
  intro h;rw [stepsAt,List.mem_append] at h
  rcases h with h | h
  ·obtain ⟨r,hr,h1,h2⟩:=ih h;exact ⟨r,by omega,h1,h2⟩
  ·split at h
   ·rename_i hk
    simp at h;exact ⟨k,by omega,h,hk⟩
   ·simp at h
theorem steps_ok {t:Tree} {cp:Int} {ru:Bool} {s:Int × List Int} (hv:validE t cp ru=0) (h:s∈stepsR t cp ru):∃ t',stepR t cp ru s.1 s.2=(0,some t')∧validE t' cp ru=0∧s.2.length≤1000000:=by
 obtain ⟨p,hp,hs⟩:=List.mem_flatMap.1 h;obtain ⟨r,hr,rfl,hok⟩:=stepsAt_mem _ hs;have hl:=(paths_length t).2 p hp;have hb:=(valid_ok hv).2.1;unfold okStep at hok
 cases ha:atT t p with
 | none=> rw [ha] at hok;cases hok
 | some x=>
  rw [ha] at hok;simp only at hok
  cases hy:ruleR r x with
  | none=> rw [hy] at hok;cases hok
  | some y=>
   rw [hy] at hok;simp only [okOf] at hok;obtain ⟨z,hz⟩:=Option.isSome_iff_exists.1 hok;refine ⟨z,?_,?_,by simp only;omega⟩
   ·simp only [stepR];rw [if_pos hv,if_pos (by omega),ha];simp only [stepA,Int.toNat_natCast,hy,stepB];rw [if_pos hok,hz]
   ·unfold putV at hz
    split at hz
    ·cases hz
    ·split at hz
     ·rename_i h1;cases hz;exact h1
     ·cases hz
end Go.Proofs.YtjnlkjlbejelgaaGreat
