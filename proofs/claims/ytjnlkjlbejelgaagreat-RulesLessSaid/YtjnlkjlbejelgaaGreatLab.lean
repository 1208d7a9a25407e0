/- Part 2 of the proof. No condition: every lemma says its own. -/
import Derived.Deep.RegionHeld3
import Derived.Deep.DeepCutAuto
import Derived.Laws.EntriesVeiled
import Derived.Test.YtjnlkjlbejelgaaGreatLaa
import Derived.Test.YtjnlkjlbejelgaaGreatProg
namespace Go.Proofs.YtjnlkjlbejelgaaGreat
open Go.RowKit
open Go.Value renaming int→H,slice→M,bool→F
open Go.IntKind renaming i64→J
set_option maxRecDepth 100000
set_option maxHeartbeats 16000000
theorem run_append_zero {P:Program} (w:World) (t ty e:TypeId) (i:TypeInfo) (ht:P.underlying t=some (.slice e)) (hi:P.info? e=some i) (base:Option Addr) (n c:Nat) (xa:Option Addr) (cc:Nat) (hn:n≤c):
  (Builtin.append_ #[t,t] ty #[M base n c,M xa 0 cc]).run P w=.ok (M base n c) w:=by
 have hfc:(Builtin.firstCells i.size 0 (M xa 0 cc)).run P w=.ok #[] w:=by
  cases xa with
  | none=> simp [Builtin.firstCells]
  | some a=> simpa using run_firstCells_some (P:=P) (w:=w) i.size 0 a 0 cc [] (by simp) (by simp)
 have hst:∀ (a:Addr),(storeCells a []).run P w=.ok () w:=fun a=> by simp [storeCells]
 cases base with
 | none=> simp [Builtin.append_,run_underlying ht,typeInfo,hi,hfc,Builtin.lenOf,hn,sizeOf]
 | some a=> simp [Builtin.append_,run_underlying ht,typeInfo,hi,hfc,Builtin.lenOf,hn,hst,sizeOf]
theorem run_append_any {P:Program} (w:World) (t ty e:TypeId) (i:TypeInfo) (z:Value) (size bytes:Nat) (ht:P.underlying t=some (.slice e)) (hi:P.info? e=some i) (hz:i.zero=some z)
  (hsize:i.size=size) (hby:i.bytes=bytes) (hzs:z.cells.size=size) (hsz:0 < size)
  (a:Option Nat) (n c:Nat) (xs:List Value) (hown:SliceAt w e size a n c xs)
  (xa:Option Addr) (m cc:Nat) (news:List Value) (hl:news.length=m * size) (hnews:0 < m→∃ ad,xa=some ad∧∀ j u,news[j]? =some u→w.cell? (ad.add j)=some u) (h1:∀ u∈news,u.oneCell'=true)
  (hlen:n + m≤140737488355328) (hbytes:(n + m) * bytes≤140737488355328):
  ∃ a' c' w',(Builtin.append_ #[t,t] ty #[sv a n c,M xa m cc]).run P w=.ok (sv a' (n + m) c') w'∧SliceAt w' e size a' (n + m) c' (xs ++ news)∧Keeps a.toList w w'∧(a'=a∨∃ g,a'=some g∧w.heap.size≤g):=by
 by_cases hm:m=0
 ·subst hm;have hx:news=[]:=List.eq_nil_of_length_eq_zero (by simpa using hl);subst hx;have hnc:n≤c:=by
   cases a with
   | none=> obtain ⟨_,h2,h3⟩:=hown;omega
   | some g=> obtain ⟨_,cur,_,h3,_⟩:=hown;exact h3
  exact ⟨a,c,w,run_append_zero w t ty e i ht hi _ n c xa cc hnc,by simpa using hown,Keeps.refl _ _,.inl rfl⟩
 ·obtain ⟨ad,rfl,hc⟩:=hnews (by omega);obtain ⟨g,c',w',hr,h2,h3,h4⟩:=run_append_sl (P:=P) w t ty e i z size bytes ht hi hz hsize hby hzs hsz a n c xs hown ad m cc news hl hc h1 (by omega) hlen hbytes;refine ⟨some g,c',w',hr,h2,h3,?_⟩
  rcases h4 with h | h
  ·exact .inl h.symm
  ·exact .inr ⟨g,rfl,h⟩
theorem wpList_append_any {P:Program} {w:World} {ops:Array Oper} {rest:List Oper} {o:Oper} {A:Act} {Q:Exit→Act→World→Prop} (hgd:o.guard=none) (s x:Operand) (t:TypeId)
  (ho:o.op=.call {callee:=.builtin .append,args:=#[s,x],argTypes:=#[t,t]})
  (e:TypeId) (i:TypeInfo) (z:Value) (size bytes:Nat) (ht:P.underlying t=some (.slice e)) (hi:P.info? e=some i) (hz:i.zero=some z)
  (hsize:i.size=size) (hby:i.bytes=bytes) (hzs:z.cells.size=size) (hsz:0 < size)
  (a:Option Nat) (n c:Nat) (xs:List Value) (hs:A.eval s=sv a n c) (hown:SliceAt w e size a n c xs)
  (xa:Option Addr) (m cc:Nat) (news:List Value) (hx:A.eval x=M xa m cc) (hl:news.length=m * size) (hnews:0 < m→∃ ad,xa=some ad∧∀ j u,news[j]? =some u→w.cell? (ad.add j)=some u) (h1:∀ u∈news,u.oneCell'=true)
  (hlen:n + m≤140737488355328) (hbytes:(n + m) * bytes≤140737488355328)
  (h:∀ a' c' w',SliceAt w' e size a' (n + m) c' (xs ++ news)→Keeps a.toList w w'→(a'=a∨∃ g,a'=some g∧w.heap.size≤g)→wpList P ops Q rest (A.put o.dst (sv a' (n + m) c')) w'):wpList P ops Q (o::rest) A w:=
 wpList_plain hgd fun K hK=> by
  obtain ⟨a',c',w',hr,h2,h3,h4⟩:=run_append_any (P:=P) w t o.type e i z size bytes ht hi hz hsize hby hzs hsz a n c xs hown xa m cc news hl hnews h1 hlen hbytes;unfold Oper.wp execOp;simp only [ho,resolve,invoke,builtin,Sem.run_bind,Sem.run_pure,Result.andThen_ok,List.map_toArray,List.map_cons,List.map_nil,hs,hx,hr];exact hK _ _ (h a' c' w' h2 h3 h4)
theorem NodesIn.src {w:World} {ka:Option Addr} {kc:Nat} {kids:List MRe} (h:NodesIn w ka kc kids):0 < kids.length→∃ ad,ka=some ad∧∀ j u,(flatK kids)[j]? =some u→w.cell? (ad.add j)=some u:=fun h0=> by
 obtain ⟨b,off,h1,_,h2⟩:=h.flat h0;exact ⟨⟨b,off,none⟩,h1,fun j u hu=> by rw [add_none];exact h2 j u hu⟩
theorem SpansIn.src {w:World} {ka:Option Addr} {kc:Nat} {set:List (Int × Int)} (h:SpansIn w ka kc set):0 < set.length→∃ ad,ka=some ad∧∀ j u,(flatP set)[j]? =some u→w.cell? (ad.add j)=some u:=fun h0=> by
 obtain ⟨b,off,h1,_,h2⟩:=h.flat h0;exact ⟨⟨b,off,none⟩,h1,fun j u hu=> by rw [add_none];exact h2 j u hu⟩
def lexP:List (Int × Int)→Int
 | []=> 0
 | (a,b)::r=> if a < b then -1 else if b < a then 1 else lexP r
def digitI (b:Bool):Int:=if b then 1 else 0
def pairsN (a b:Tree):List (Int × Int):=[(a.mn,b.mn),(a.mx,b.mx),(a.mode,b.mode),(a.n,b.n),(digitI a.neg,digitI b.neg),((a.kids.length:Int),(b.kids.length:Int))]
def headN (a b:Tree):List (Int × Int):=[(a.op,b.op),((a.set.length:Int),(b.set.length:Int))]
def spanN (x y:Int × Int):List (Int × Int):=[(x.1,y.1),(x.2,y.2)]
def spansN:List (Int × Int)→List (Int × Int)→List (Int × Int)
 | x::xs,y::ys=> spanN x y ++ spansN xs ys
 | _,_=> []
def nodeN (a b:Tree):List (Int × Int):=headN a b ++ (spansN a.set b.set ++ pairsN a b)
mutual
def cmpT:Tree→Tree→Int
 | .node op set kids mn mx mode n neg,b=> if lexP (nodeN (.node op set kids mn mx mode n neg) b)≠0 then lexP (nodeN (.node op set kids mn mx mode n neg) b) else cmpTs kids b.kids
def cmpTs:List Tree→List Tree→Int
 | x::xs,y::ys=> if cmpT x y≠0 then cmpT x y else cmpTs xs ys
 | _,_=> 0
end
theorem cmpT_eq (a b:Tree):cmpT a b=if lexP (nodeN a b)≠0 then lexP (nodeN a b) else cmpTs a.kids b.kids:=by
 cases a;rw [cmpT];rfl
theorem lexP_append (a b:List (Int × Int)):lexP (a ++ b)=if lexP a≠0 then lexP a else lexP b:=by
 induction a with
 | nil=> simp [lexP]
 | cons x xs ih=>
  obtain ⟨p,q⟩:=x;simp only [List.cons_append,lexP,ih]
  by_cases h1:p < q
  ·simp [h1]
  ·by_cases h2:q < p
   ·simp [h1,h2]
   ·simp [h1,h2]
theorem lexP_zero {l:List (Int × Int)} (h:lexP l=0):∀ p∈l,p.1=p.2:=by
 induction l with
 | nil=> simp
 | cons x xs ih=>
  obtain ⟨p,q⟩:=x;simp only [lexP] at h
  split at h
  ·omega
  ·split at h
   ·omega
   ·intro y hy
    rcases List.mem_cons.1 hy with rfl | hy
    ·show p=q;omega
    ·exact ih h y hy
theorem lexP_self {l:List (Int × Int)} (h:∀ p∈l,p.1=p.2):lexP l=0:=by
 induction l with
 | nil=> rfl
 | cons x xs ih=>
  obtain ⟨p,q⟩:=x
  have:=h (p,q) (by simp)
  simp only at this;subst this;simp only [lexP,Int.lt_irrefl,if_false];exact ih fun y hy=> h y (by simp [hy])
theorem spansN_self (l:List (Int × Int)):∀ p∈spansN l l,p.1=p.2:=by
 induction l with
 | nil=> simp [spansN]
 | cons x xs ih=>
  intro p hp;simp only [spansN,spanN,List.cons_append,List.nil_append,List.mem_cons] at hp
  rcases hp with rfl | rfl | hp
  ·rfl
  ·rfl
  ·exact ih p hp
theorem spansN_eq:∀ {l m:List (Int × Int)},l.length=m.length→(∀ p∈spansN l m,p.1=p.2)→l=m
 | [],[],_,_=> rfl
 | x::xs,y::ys,hl,h=> by
  have h1:=h (x.1,y.1) (by simp [spansN,spanN]);have h2:=h (x.2,y.2) (by simp [spansN,spanN]);rw [spansN_eq (l:=xs) (m:=ys) (by simpa using hl) fun p hp=> h p (by simp [spansN,hp])];obtain ⟨x1,x2⟩:=x;obtain ⟨y1,y2⟩:=y;simp only at h1 h2;rw [h1,h2]
 | [],y::ys,hl,_=> by simp at hl
 | x::xs,[],hl,_=> by simp at hl
mutual
theorem cmpT_self:∀ a:Tree,cmpT a a=0
 | .node op set kids mn mx mode n neg=> by
  rw [cmpT,if_neg]
  ·exact cmpTs_self kids
  ·intro h
   apply h
   apply lexP_self
   intro p hp;simp only [nodeN,headN,pairsN,List.mem_append,List.mem_cons,List.not_mem_nil,or_false,Tree.set] at hp
   rcases hp with (rfl | rfl) | hp | rfl | rfl | rfl | rfl | rfl | rfl
   all_goals (try rfl)
   exact spansN_self set p hp
theorem cmpTs_self:∀ l:List Tree,cmpTs l l=0
 | []=> rfl
 | x::xs=> by rw [cmpTs,if_neg (by rw [cmpT_self x];simp)];exact cmpTs_self xs
end
mutual
theorem eq_of_cmpT:∀ (a b:Tree),cmpT a b=0→a=b
 | .node op set kids mn mx mode n neg,.node op' set' kids' mn' mx' mode' n' neg',h=> by
  rw [cmpT] at h
  split at h
  ·contradiction
  ·rename_i h0
   have h0:lexP (nodeN (.node op set kids mn mx mode n neg) (.node op' set' kids' mn' mx' mode' n' neg'))=0:=by simpa using h0
   have h1:=lexP_zero h0;have m1:=h1 (op,op') (by simp [nodeN,headN,Tree.op]);have m2:=h1 ((set.length:Int),(set'.length:Int)) (by simp [nodeN,headN,Tree.set]);have m3:=h1 (mn,mn') (by simp [nodeN,pairsN,Tree.mn]);have m4:=h1 (mx,mx') (by simp [nodeN,pairsN,Tree.mx]);have m5:=h1 (mode,mode') (by simp [nodeN,pairsN,Tree.mode]);have m6:=h1 (n,n') (by simp [nodeN,pairsN,Tree.n]);have m7:=h1 (digitI neg,digitI neg') (by simp [nodeN,pairsN,Tree.neg]);have m8:=h1 ((kids.length:Int),(kids'.length:Int)) (by simp [nodeN,pairsN,Tree.kids]);simp only at m1 m2 m3 m4 m5 m6 m7 m8;have m9:set=set':=spansN_eq (by omega) fun p hp=> h1 p (by simp [nodeN,Tree.set,hp]);have m10:neg=neg':=by cases neg <;> cases neg' <;> simp [digitI] at m7 <;> rfl
   have m11:kids=kids':=eq_of_cmpTs kids kids' (by omega) h;rw [m1,m3,m4,m5,m6,m9,m10,m11]
theorem eq_of_cmpTs:∀ (l m:List Tree),l.length=m.length→cmpTs l m=0→l=m
 | [],[],_,_=> rfl
 | x::xs,y::ys,hl,h=> by
  rw [cmpTs] at h
  split at h
  ·contradiction
  ·rename_i h0
   rw [eq_of_cmpT x y (by simpa using h0),eq_of_cmpTs xs ys (by simpa using hl) h]
 | [],y::ys,hl,_=> by simp at hl
 | x::xs,[],hl,_=> by simp at hl
end
theorem cmpT_zero (a b:Tree):cmpT a b=0↔a=b:=⟨eq_of_cmpT a b,fun h=> h ▸ cmpT_self a⟩
instance:DecidableEq Tree:=fun a b=> decidable_of_iff _ (cmpT_zero a b)
def eqB (a b:Tree):Bool:=decide (cmpT a b=0)
theorem eqB_iff (a b:Tree):eqB a b=true↔a=b:=by unfold eqB;rw [decide_eq_true_iff];exact cmpT_zero a b
theorem infoRe:(Tryz.prog.info? 26).map (fun i=> (i.zero,i.size,i.bytes))=some (some (.agg #[H J 0,M none 0 0,M none 0 0,H J 0,H J 0,H J 0,H J 0,F false]),8,96):=by kernel_rfl
theorem sizeRe:(Tryz.prog.info? 26).map (·.size)=some 8:=by kernel_rfl
def greedyB (op mn mx mode least most:Int):Bool:=op==4 && (mode==0 && (mn==least && mx==most))
theorem greedy_any (m:MRe) (least most:Int) (w:World):
  Calls Tryz.prog 126 #[m.val,H J least,H J most] w fun e w'=> e=.returned (F (greedyB m.tree.op m.tree.mn m.tree.mx m.tree.mode least most))∧Keeps [] w w':=by
 obtain ⟨op,sa,sc,set,ka,kc,kids,mn,mx,mode,n,neg⟩:=m;simp only [MRe.val,MRe.tree,Tree.op,Tree.mn,Tree.mx,Tree.mode]
 by_cases h1:op=4
 ·by_cases h2:mode=0
  ·by_cases h3:mn=least
   ·by_cases h4:mx=most
    all_goals
     go_enter Tryz.func126,Tryz.ntmps126
     go_wp2;go_ret;exact ⟨by simp [greedyB, *],(Keeps.refl [] w).alloc _⟩
   ·go_enter Tryz.func126,Tryz.ntmps126
    go_wp2;go_ret;exact ⟨by simp [greedyB, *],(Keeps.refl [] w).alloc _⟩
  ·go_enter Tryz.func126,Tryz.ntmps126
   go_wp2;go_ret;exact ⟨by simp [greedyB, *],(Keeps.refl [] w).alloc _⟩
 ·go_enter Tryz.func126,Tryz.ntmps126
  go_wp2;go_ret;exact ⟨by simp [greedyB, *],(Keeps.refl [] w).alloc _⟩
def starB (t:Tree):Bool:=greedyB t.op t.mn t.mx t.mode 0 (-1)
theorem star_any (m:MRe) (w:World):
  Calls Tryz.prog 125 #[m.val] w fun e w'=> e=.returned (F (starB m.tree))∧Keeps [] w w':=by
 obtain ⟨m',hm⟩:∃ m',m=m':=⟨_,rfl⟩;obtain ⟨op,sa,sc,set,ka,kc,kids,mn,mx,mode,n,neg⟩:=m;rw [show MRe.val (.node op sa sc set ka kc kids mn mx mode n neg)=.agg #[H J op,M sa set.length sc,M ka kids.length kc,H J mn,H J mx,H J mode,H J n,F neg] from rfl];have HG:=gi (fun W=> greedy_any m' 0 (-1) W);rw [←hm] at HG;simp only [MRe.val] at HG;clear hm;go_enter Tryz.func125,Tryz.ntmps125
 go_wp2_with fail
 refine Calls.mono (HG.o _) ?_;rintro e w2 ⟨rfl,hk⟩;have HK:=gi hk;clear hk;go_wp2;go_ret;exact ⟨rfl,((Keeps.refl [] w).alloc _).trans HK.o⟩
theorem rc {fn:Func} {R:Ending→World→Prop} {a:Act} {w:World} {p:Tmp} {g:Nat} {cs:Array Value} (hg:w.heap[g]? =some (.cells cs 26 (0,0))) (hR:R (.returned (.agg cs)) w) (h:fn.results=#[.cell p 26]:=by rfl) (hp:a.tmps.getD p undef=.pointer (some ⟨g,0,none⟩):=by rfl) (hi:8=cs.size:=by rfl) (hd:a.defers=[]:=by rfl):bodyPost Tryz.prog fn R .ret a w:=
 bodyPost_ret (results_cell_row h _ _ g 26 cs (0,0) _ hp hg Tryz.underlying26 rfl (by rw [sizeRe,hi])) hd hR
theorem lexP_drop (l:List (Int × Int)) (k:Nat) (h:k < l.length):lexP (l.drop k)=if l[k].1 < l[k].2 then -1 else if l[k].2 < l[k].1 then 1 else lexP (l.drop (k + 1)):=by
 rw [List.drop_eq_getElem_cons h];rfl
theorem aorder_any (sa:Option Addr) (sc:Nat) (l:List (Int × Int)) (w:World) (h:SpansIn w sa sc l):
  Calls Tryz.prog 103 #[M sa l.length sc] w fun e w'=> e=.returned (H J (lexP l))∧Keeps [] w w':=by
 have hle:=h.le;have hcap:=h.cap;unfold maxLen at hcap;have HS:=gi h;clear h;go_enter Tryz.func103,Tryz.ntmps103
 go_wp2
 go_loopw [7] (fun i wr=> ∃ k:Nat,k≤l.length∧i=H J k∧lexP (l.drop k)=lexP l∧Keeps [] w wr) (fun i _=> l.length - (intOf i).toNat)
 case atStart=> exact ⟨0,Nat.zero_le _,rfl,rfl,Keeps.refl _ _⟩
 case round=>
  obtain ⟨k,hk,rfl,hl,hkp⟩:=hrel;have HL:=gi hl;have HK:=gi hkp
  by_cases hlt:k < l.length
  ·obtain ⟨b,off,rfl,hb,hc⟩:=(HS.o.keep hkp).at_ (by omega);obtain ⟨c0,c1⟩:=hc k hlt;have hd:=lexP_drop l k hlt;have HD:=gi hd;clear hl hkp hd hc;obtain ⟨x,hx⟩:∃ x,x=l[k]:=⟨_,rfl⟩;rw [←hx] at c0 c1 HD;clear hx;obtain ⟨p,q⟩:=x;simp only at c0 c1 HD;have hdd:=HD.o
   by_cases h1:p < q
   ·rw [if_pos h1] at hdd;have HDD:=gi hdd;clear hdd;go_wp2;go_ret;exact ⟨by rw [←HL.o,HDD.o];rfl,HK.o.alloc _⟩
   ·by_cases h2:q < p
    ·rw [if_neg h1,if_pos h2] at hdd;have HDD:=gi hdd;clear hdd;go_wp2;go_ret;exact ⟨by rw [←HL.o,HDD.o];rfl,HK.o.alloc _⟩
    ·rw [if_neg h1,if_neg h2] at hdd;have HDD:=gi hdd;clear hdd;go_wp2;go_roundw
     case rel=> exact ⟨k + 1,by omega,by go_num,by rw [←HDD.o,HL.o],HK.o.alloc _⟩
     case measure=> simp [intOf];omega
  ·obtain rfl:k=l.length:=by omega
   clear hl hkp;go_wp2;go_ret;exact ⟨by rw [←HL.o,List.drop_length];rfl,HK.o⟩
theorem SpansIn.pairs (w:World) (l:List (Int × Int)) (cs:Array Value) (T:Nat) (hc:cs.toList=flatP l) (hm:l.length≤maxLen):SpansIn (w.alloc (.cells cs T)).drew (some ⟨w.heap.size,0,none⟩) l.length l:=
 SpansIn.of_block (w:=(w.alloc (.cells cs T)).drew) (heap_alloc_new w (.cells cs T)) hc hm
theorem digit_any (b:Bool) (w:World):Calls Tryz.prog 104 #[F b] w fun e w'=> e=.returned (H J (digitI b))∧w=w':=by
 cases b
 all_goals
  go_enter Tryz.func104,Tryz.ntmps104
  go_wp2;go_ret;exact ⟨rfl,rfl⟩
theorem spansN_drop:∀ (a b:List (Int × Int)) (k:Nat) (ha:k < a.length) (hb:k < b.length),spansN (a.drop k) (b.drop k)=spanN a[k] b[k] ++ spansN (a.drop (k + 1)) (b.drop (k + 1)):=by
 intro a b k ha hb;rw [List.drop_eq_getElem_cons ha,List.drop_eq_getElem_cons hb];rfl
theorem compareNodes_any (b1 o1 b2 o2:Nat) (m1 m2:MRe) (w:World) (h1:At8 w b1 o1 m1) (h2:At8 w b2 o2 m2) (k1:m1.OK w) (k2:m2.OK w):
  Calls Tryz.prog 67 #[.pointer (some ⟨b1,o1,none⟩),.pointer (some ⟨b2,o2,none⟩)] w fun e w'=> e=.returned (H J (lexP (nodeN m1.tree m2.tree)))∧Keeps [] w w':=by
 obtain ⟨op1,sa1,sc1,set1,ka1,kc1,kids1,mn1,mx1,mode1,n1,neg1⟩:=m1;obtain ⟨op2,sa2,sc2,set2,ka2,kc2,kids2,mn2,mx2,mode2,n2,neg2⟩:=m2;have hs1:=k1.spans;have hs2:=k2.spans;have hn1:=k1.nodes.le;have hn2:=k2.nodes.le;have hN1:=k1.nodes.cap;have hN2:=k2.nodes.cap;have hl1:=hs1.le;have hl2:=hs2.le;have hL1:=hs1.cap;have hL2:=hs2.cap;unfold maxLen at hN1 hN2 hL1 hL2;have g1:=h1.node;have g2:=h2.node;have c0:=g1.c0;have c1:=g1.c1;have d0:=g2.c0;have d1:=g2.c1;have HG1:=gi g1;have HG2:=gi g2;have HS1:=gi hs1;have HS2:=gi hs2;clear k1 k2 h1 h2 hs1 hs2 g1 g2;simp only [MRe.tree];obtain ⟨T1,hT1⟩:∃ T,T=Tree.node op1 set1 (MRe.trees kids1) mn1 mx1 mode1 n1 neg1:=⟨_,rfl⟩;obtain ⟨T2,hT2⟩:∃ T,T=Tree.node op2 set2 (MRe.trees kids2) mn2 mx2 mode2 n2 neg2:=⟨_,rfl⟩;rw [←hT1,←hT2];have hh:headN T1 T2=[(op1,op2),((set1.length:Int),(set2.length:Int))]:=by rw [hT1,hT2];rfl
 have hp:pairsN T1 T2=[(mn1,mn2),(mx1,mx2),(mode1,mode2),(n1,n2),(digitI neg1,digitI neg2),((kids1.length:Int),(kids2.length:Int))]:=by rw [hT1,hT2];simp [pairsN,Tree.mn,Tree.mx,Tree.mode,Tree.n,Tree.neg,Tree.kids,MRe.trees_length]
 have hsN:spansN T1.set T2.set=spansN set1 set2:=by rw [hT1,hT2];rfl
 have HH:=gi hh;have HP:=gi hp;have HSN:=gi hsN;clear hh hp hsN hT1 hT2;have hN:lexP (nodeN T1 T2)=if lexP (headN T1 T2)≠0 then lexP (headN T1 T2) else if lexP (spansN set1 set2)≠0 then lexP (spansN set1 set2) else lexP (pairsN T1 T2):=by
  unfold nodeN;rw [lexP_append,lexP_append,HSN.o]
 have HN:=gi hN;clear hN;obtain ⟨q1,hq1⟩:∃ q,q=lexP [(op1,op2),((set1.length:Int),(set2.length:Int))]:=⟨_,rfl⟩;obtain ⟨q3,hq3⟩:∃ q,q=lexP [(mn1,mn2),(mx1,mx2),(mode1,mode2),(n1,n2),(digitI neg1,digitI neg2),((kids1.length:Int),(kids2.length:Int))]:=⟨_,rfl⟩;rw [HH.o,HP.o,←hq1,←hq3] at HN;have HQ1:=gi hq1;have HQ3:=gi hq3;clear hq1 hq3 HH HP HSN;have hlen:q1=0→set1.length=set2.length:=fun h=> by have h2:=lexP_zero (HQ1.o.symm.trans h) ((set1.length:Int),(set2.length:Int)) (by simp);simp only at h2;omega
 have HLEN:=gi hlen;clear hlen;go_enter Tryz.func67,Tryz.ntmps67
 go_wp2
 go_region_held3 (fun w'=> w'.cell? ⟨b1,o1,none⟩=some (H J op1)∧w'.cell? ⟨b1,o1 + 1,none⟩=some (M sa1 set1.length sc1)∧w'.cell? ⟨b2,o2,none⟩=some (H J op2)∧w'.cell? ⟨b2,o2 + 1,none⟩=some (M sa2 set2.length sc2))
  (first | exact ⟨c0,c1,d0,d1⟩ | exact ⟨E1.o.c c0,E1.o.c c1,E1.o.c d0,E1.o.c d1⟩ | exact ⟨((Keeps.refl [] w).alloc _).drew.c c0,((Keeps.refl [] w).alloc _).drew.c c1,((Keeps.refl [] w).alloc _).drew.c d0,((Keeps.refl [] w).alloc _).drew.c d1⟩)
  (first
   | (go_at_call 103;refine Calls.mono (aorder_any (some ⟨w.heap.size,0,none⟩) 2 [(op1,op2),((set1.length:Int),(set2.length:Int))] _ (SpansIn.pairs w [(op1,op2),((set1.length:Int),(set2.length:Int))] #[H J op1,H J op2,H J set1.length,H J set2.length] 111 rfl (by simp [maxLen]))) ?_;rintro e w2 ⟨rfl,hk2⟩;rw [←HQ1.o];have E1:=gi ((((Keeps.refl [] w).alloc _).drew).trans hk2);clear hk2))
 by_cases hz:q1=0
 ·have hl12:=HLEN.o hz;have hgo:(if (q1≠0) then q1 else if lexP (spansN set1 set2)≠0 then lexP (spansN set1 set2) else q3)=if lexP (spansN set1 set2)≠0 then lexP (spansN set1 set2) else q3:=by rw [if_neg (by simp [hz])]
  rw [hgo] at HN;clear hgo;obtain rfl:=hz;have E0:=gi E1.o;have e1:=E1.o.c c1;have HL12:=gi hl12;clear c0 c1 d0 d1 E1 hl12 HLEN;go_wp2
  go_loopw [39] (fun i wr=> ∃ k:Nat,k≤set1.length∧i=H J k∧lexP (spansN (set1.drop k) (set2.drop k))=lexP (spansN set1 set2)∧Keeps [] w wr) (fun i _=> set1.length - (intOf i).toNat)
  case atStart=> exact ⟨0,Nat.zero_le _,rfl,rfl,E0.o⟩
  case round=>
   obtain ⟨k,hk,rfl,hl,hkp⟩:=hrel;have HL:=gi hl;have HK:=gi hkp
   by_cases hlt:k < set1.length
   ·have hlt2:k < set2.length:=by rw [←HL12.o];exact hlt
    obtain ⟨b,off,rfl,hb,hc⟩:=(HS1.o.keep hkp).at_ (by omega);obtain ⟨b',off',rfl,hb',hc'⟩:=(HS2.o.keep hkp).at_ (by omega);obtain ⟨x0,x1⟩:=hc k hlt;obtain ⟨y0,y1⟩:=hc' k hlt2;have d1:=hkp.cell HG2.o.c1 (by simp);have hd:=spansN_drop set1 set2 k hlt hlt2;have HD:=gi hd;clear hl hkp hd hc hc'
    generalize set1[k]=x at *
    generalize set2[k]=y at *
    obtain ⟨p,q⟩:=x;obtain ⟨p',q'⟩:=y;simp only at x0 x1 y0 y1;have hdd:lexP (spansN set1 set2)=if lexP [(p,p'),(q,q')]≠0 then lexP [(p,p'),(q,q')] else lexP (spansN (set1.drop (k + 1)) (set2.drop (k + 1))):=by rw [←HL.o,HD.o,lexP_append];rfl
    obtain ⟨q2,hq2⟩:∃ q2,q2=lexP [(p,p'),(q,q')]:=⟨_,rfl⟩;rw [←hq2] at hdd;have HQ2:=gi hq2;have HDD:=gi hdd;clear hq2 hdd HD;have kV:Keeps [] wr (wr.alloc (.cells #[H J p,H J q] 86)):=(Keeps.refl [] wr).alloc _;have v0:(wr.alloc (.cells #[H J p,H J q] 86)).cell? ⟨wr.heap.size,0,none⟩=some (H J p):=cell_new _ _ _ _;have v1:(wr.alloc (.cells #[H J p,H J q] 86)).cell? ⟨wr.heap.size,1,none⟩=some (H J q):=cell_new _ _ _ _;have u1:=kV.c d1;have z0:=kV.c y0;have z1:=kV.c y1;have HKV:=gi (HK.o.trans kV);clear kV d1 y0 y1;go_upto_region 7 with fail
    clear x0 x1 HK;obtain ⟨B,hB⟩:∃ B,B=wr.heap.size:=⟨_,rfl⟩;rw [←hB] at v0 v1 ⊢
    generalize wr.alloc (.cells #[H J p,H J q] 86)=V at *
    clear hb hb' hB
    go_region_held3 (fun w'=> w'.cell? ⟨B,0,none⟩=some (H J p)∧w'.cell? ⟨B,1,none⟩=some (H J q)∧w'.cell? ⟨b2,o2 + 1,none⟩=some (M (some ⟨b',off',none⟩) set2.length sc2)∧w'.cell? ⟨b',off' + k * 2,none⟩=some (H J p')∧w'.cell? ⟨b',off' + k * 2 + 1,none⟩=some (H J q'))
     (first | exact ⟨v0,v1,u1,z0,z1⟩ | exact ⟨E1.o.c v0,E1.o.c v1,E1.o.c u1,E1.o.c z0,E1.o.c z1⟩ | exact ⟨((Keeps.refl [] V).alloc _).drew.c v0,((Keeps.refl [] V).alloc _).drew.c v1,((Keeps.refl [] V).alloc _).drew.c u1,((Keeps.refl [] V).alloc _).drew.c z0,((Keeps.refl [] V).alloc _).drew.c z1⟩)
     (first
      | (go_at_call 103;refine Calls.mono (aorder_any (some ⟨V.heap.size,0,none⟩) 2 [(p,p'),(q,q')] _ (SpansIn.pairs V [(p,p'),(q,q')] #[H J p,H J p',H J q,H J q'] 111 rfl (by simp [maxLen]))) ?_;rintro e w3 ⟨rfl,hk3⟩;rw [←HQ2.o];have E1:=gi ((((Keeps.refl [] V).alloc _).drew).trans hk3);clear hk3))
    have HK3:=gi (HKV.o.trans E1.o);clear v0 v1 u1 z0 z1 E1 HKV
    by_cases hq:q2=0
    ·have hdd:=HDD.o;rw [if_neg (by simp [hq])] at hdd;have HDE:=gi hdd;clear hdd HDD;subst hq;go_wp2;go_roundw
     case rel=> exact ⟨k + 1,by omega,by go_num,HDE.o.symm,HK3.o⟩
     case measure=> simp [intOf];omega
    ·have hdd:=HDD.o;rw [if_pos hq] at hdd;have hnn:=HN.o;rw [hdd,if_pos hq] at hnn;have HNN:=gi hnn;have hqb:(q2 !=0)=true:=by simp [hq]
     clear hdd HDD hnn HN;go_wp2;go_ret;exact ⟨by rw [HNN.o];rfl,HK3.o⟩
   ·obtain rfl:k=set1.length:=by omega
    have h0:lexP (spansN set1 set2)=0:=by rw [←HL.o,List.drop_length];rfl
    have hnn:=HN.o;rw [h0] at hnn;simp only [ne_eq,not_true,if_false] at hnn;have HNN:=gi hnn;have f0:=HG1.o;have f1:=HG2.o;have kk:=HK.o;have p3:=kk.cell f0.c3 (by simp);have p4:=kk.cell f0.c4 (by simp);have p5:=kk.cell f0.c5 (by simp);have p6:=kk.cell f0.c6 (by simp);have p7:=kk.cell f0.c7 (by simp);have p2:=kk.cell f0.c2 (by simp);have r3:=kk.cell f1.c3 (by simp);have r4:=kk.cell f1.c4 (by simp);have r5:=kk.cell f1.c5 (by simp);have r6:=kk.cell f1.c6 (by simp);have r7:=kk.cell f1.c7 (by simp);have r2:=kk.cell f1.c2 (by simp);clear hl hkp h0 hnn HN f0 f1 kk;go_upto_region 11 with fail
    go_region_held3 (fun w'=> w'.cell? ⟨b1,o1 + 3,none⟩=some (H J mn1)∧w'.cell? ⟨b1,o1 + 4,none⟩=some (H J mx1)∧w'.cell? ⟨b1,o1 + 5,none⟩=some (H J mode1)∧w'.cell? ⟨b1,o1 + 6,none⟩=some (H J n1)∧w'.cell? ⟨b1,o1 + 7,none⟩=some (F neg1)∧w'.cell? ⟨b1,o1 + 2,none⟩=some (M ka1 kids1.length kc1)∧
      w'.cell? ⟨b2,o2 + 3,none⟩=some (H J mn2)∧w'.cell? ⟨b2,o2 + 4,none⟩=some (H J mx2)∧w'.cell? ⟨b2,o2 + 5,none⟩=some (H J mode2)∧w'.cell? ⟨b2,o2 + 6,none⟩=some (H J n2)∧w'.cell? ⟨b2,o2 + 7,none⟩=some (F neg2)∧w'.cell? ⟨b2,o2 + 2,none⟩=some (M ka2 kids2.length kc2))
     (first | exact ⟨p3,p4,p5,p6,p7,p2,r3,r4,r5,r6,r7,r2⟩ | exact ⟨E1.o.c p3,E1.o.c p4,E1.o.c p5,E1.o.c p6,E1.o.c p7,E1.o.c p2,E1.o.c r3,E1.o.c r4,E1.o.c r5,E1.o.c r6,E1.o.c r7,E1.o.c r2⟩ | exact ⟨((Keeps.refl [] wr).alloc _).drew.c p3,((Keeps.refl [] wr).alloc _).drew.c p4,((Keeps.refl [] wr).alloc _).drew.c p5,((Keeps.refl [] wr).alloc _).drew.c p6,((Keeps.refl [] wr).alloc _).drew.c p7,((Keeps.refl [] wr).alloc _).drew.c p2,((Keeps.refl [] wr).alloc _).drew.c r3,((Keeps.refl [] wr).alloc _).drew.c r4,((Keeps.refl [] wr).alloc _).drew.c r5,((Keeps.refl [] wr).alloc _).drew.c r6,((Keeps.refl [] wr).alloc _).drew.c r7,((Keeps.refl [] wr).alloc _).drew.c r2⟩)
     (first
      | (go_at_call 104;refine Calls.mono (digit_any _ _) ?_;rintro e w3 ⟨rfl,rfl⟩)
      | (go_at_call 103;refine Calls.mono (aorder_any (some ⟨wr.heap.size,0,none⟩) 6 [(mn1,mn2),(mx1,mx2),(mode1,mode2),(n1,n2),(digitI neg1,digitI neg2),((kids1.length:Int),(kids2.length:Int))] _ (SpansIn.pairs wr [(mn1,mn2),(mx1,mx2),(mode1,mode2),(n1,n2),(digitI neg1,digitI neg2),((kids1.length:Int),(kids2.length:Int))] #[H J mn1,H J mn2,H J mx1,H J mx2,H J mode1,H J mode2,H J n1,H J n2,H J (digitI neg1),H J (digitI neg2),H J kids1.length,H J kids2.length] 111 rfl (by simp [maxLen]))) ?_;rintro e w3 ⟨rfl,hk3⟩;rw [←HQ3.o];have E1:=gi ((((Keeps.refl [] wr).alloc _).drew).trans hk3);clear hk3))
    have HK3:=gi (HK.o.trans E1.o);clear p3 p4 p5 p6 p7 p2 r3 r4 r5 r6 r7 r2 E1;go_wp2;go_ret;exact ⟨by rw [HNN.o];rfl,HK3.o⟩
 ·have hnn:=HN.o;rw [if_pos hz] at hnn;have HNN:=gi hnn;have hqb:(q1 !=0)=true:=by simp [hz]
  clear hnn HN HLEN c0 c1 d0 d1;go_wp2;go_ret;exact ⟨by rw [HNN.o];rfl,E1.o⟩
theorem MRe.induct {P:MRe→Prop} (h:∀ op sa sc set ka kc kids mn mx mode n neg,(∀ k∈kids,P k)→P (.node op sa sc set ka kc kids mn mx mode n neg)):∀ m,P m:=by
 intro m
 induction hb:m.tree.bulk using Nat.strongRecOn generalizing m with
 | _ b ih=>
  cases m with
  | node op sa sc set ka kc kids mn mx mode n neg=>
   refine h op sa sc set ka kc kids mn mx mode n neg fun k hk=> ih k.tree.bulk ?_ k rfl;subst hb
   have:k.tree∈MRe.trees kids:=by rw [MRe.trees_eq];exact List.mem_map_of_mem hk
   have:=Tree.bulks_mem this
   simp only [MRe.tree,Tree.bulk];omega
theorem trees_drop (l:List MRe) (k:Nat) (h:k < l.length):(MRe.trees l).drop k=l[k].tree::(MRe.trees l).drop (k + 1):=by
 rw [MRe.trees_eq,←List.map_drop,List.drop_eq_getElem_cons h,List.map_cons,←List.map_drop]
theorem compareWalk_any (m1:MRe):∀ (m2:MRe) (b1 o1 b2 o2 c:Nat) (w:World),At8 w b1 o1 m1→At8 w b2 o2 m2→m1.OK w→m2.OK w→w.cell? ⟨c,0,none⟩=some (.func (Fn.func 66) #[] #[.pointer (some ⟨c,0,none⟩)])→
  Calls Tryz.prog 66 #[.pointer (some ⟨b1,o1,none⟩),.pointer (some ⟨b2,o2,none⟩),.pointer (some ⟨c,0,none⟩)] w fun e w'=> e=.returned (H J (cmpT m1.tree m2.tree))∧Keeps [] w w':=by
 induction m1 using MRe.induct with
 | h op1 sa1 sc1 set1 ka1 kc1 kids1 mn1 mx1 mode1 n1 neg1 ih=>
  intro m2 b1 o1 b2 o2 c w h1 h2 k1 k2 hc;have HC:=gi (fun W (hk:Keeps [] w W)=> compareNodes_any b1 o1 b2 o2 _ m2 W (h1.keep hk) (h2.keep hk) (k1.keep hk) (k2.keep hk));have hcmp:=cmpT_eq (MRe.node op1 sa1 sc1 set1 ka1 kc1 kids1 mn1 mx1 mode1 n1 neg1).tree m2.tree;obtain ⟨T1,hT1⟩:∃ T,T=(MRe.node op1 sa1 sc1 set1 ka1 kc1 kids1 mn1 mx1 mode1 n1 neg1).tree:=⟨_,rfl⟩;obtain ⟨T2,hT2⟩:∃ T,T=m2.tree:=⟨_,rfl⟩;rw [←hT1,←hT2] at HC hcmp ⊢;obtain ⟨q,hq⟩:∃ q,q=lexP (nodeN T1 T2):=⟨_,rfl⟩;rw [←hq] at HC hcmp;have hlen:q=0→(MRe.trees kids1).length=T2.kids.length:=fun h=> by
   have h2:=lexP_zero (hq.symm.trans h) ((T1.kids.length:Int),(T2.kids.length:Int)) (by simp [nodeN,pairsN]);simp only at h2;have h3:T1.kids=MRe.trees kids1:=by rw [hT1];rfl
   rw [h3] at h2;omega
  have hT1k:T1.kids=MRe.trees kids1:=by rw [hT1];rfl
  rw [hT1k] at hcmp;have HCMP:=gi hcmp;have HLEN:=gi hlen;have HT2:=gi hT2;have HI:=gi ih;have a2:=h1.node.c2;have hn1:=k1.nodes.le;have hN1:=k1.nodes.cap;unfold maxLen at hN1;have HK1:=gi k1.kids;have HH2:=gi h2;have HK2:=gi k2;clear ih hq hcmp hlen hT1 hT2 hT1k h1 h2 k1 k2;go_enter Tryz.func66,Tryz.ntmps66
  go_wp2_with fail
  refine Calls.mono (HC.o _ (Keeps.refl _ _)) ?_;rintro e w2 ⟨rfl,hk2⟩;have e2:=hk2.c a2;have ec:=hk2.c hc;have HKA:=gi hk2;clear hk2 a2 hc HC
  by_cases hz:q=0
  ·have hl:=HLEN.o hz;have hcm:=HCMP.o;rw [if_neg (by simp [hz])] at hcm;have HCM:=gi hcm;obtain ⟨op2,sa2,sc2,set2,ka2,kc2,kids2,mn2,mx2,mode2,n2,neg2⟩:=m2;have hT2k:T2.kids=MRe.trees kids2:=by rw [HT2.o];rfl
   rw [hT2k] at hl HCM;rw [MRe.trees_length,MRe.trees_length] at hl;have HL:=gi hl;have d2:=HKA.o.cell HH2.o.node.c2 (by simp);have HKK2:=gi HK2.o.kids;clear hl hcm hT2k HLEN HCMP HH2 HK2;subst hz;go_wp2
   go_loopw [20] (fun i wr=> ∃ k:Nat,k≤kids1.length∧i=H J k∧cmpTs ((MRe.trees kids1).drop k) ((MRe.trees kids2).drop k)=cmpTs (MRe.trees kids1) (MRe.trees kids2)∧Keeps [] w2 wr) (fun i _=> kids1.length - (intOf i).toNat)
   case atStart=> exact ⟨0,Nat.zero_le _,rfl,rfl,Keeps.refl _ _⟩
   case round=>
    obtain ⟨k,hk,rfl,hl,hkp⟩:=hrel;have HLL:=gi hl;have HK:=gi hkp
    by_cases hlt:k < kids1.length
    ·have hlt2:k < kids2.length:=by rw [←HL.o];exact hlt
     have hkk:=HKA.o.trans hkp;obtain ⟨b,off,rfl,hb,hx⟩:=(HK1.o.keep hkk).nodes.kid (by omega);obtain ⟨b',off',rfl,hb',hx'⟩:=(HKK2.o.keep hkk).nodes.kid (by omega);have x1:=hkp.c e2;have x2:=hkp.c d2;have x3:=hkp.c ec;have hc1:=(HK1.o.keep hkk).all kids1[k] (List.getElem_mem hlt);have hc2:=(HKK2.o.keep hkk).all kids2[k] (List.getElem_mem hlt2);have HCALL:=gi (fun W (h:Keeps [] wr W)=> HI.o kids1[k] (List.getElem_mem hlt) kids2[k] b (off + k * 8) b' (off' + k * 8) c W ((hx k hlt).keep h) ((hx' k hlt2).keep h) (hc1.keep h) (hc2.keep h) (h.c x3));have hd:cmpTs (MRe.trees kids1) (MRe.trees kids2)=if cmpT kids1[k].tree kids2[k].tree≠0 then cmpT kids1[k].tree kids2[k].tree else cmpTs ((MRe.trees kids1).drop (k + 1)) ((MRe.trees kids2).drop (k + 1)):=by
      rw [←hl,trees_drop kids1 k hlt,trees_drop kids2 k hlt2,cmpTs]
     obtain ⟨q,hq⟩:∃ q,q=cmpT kids1[k].tree kids2[k].tree:=⟨_,rfl⟩;rw [←hq] at hd HCALL;have HD:=gi hd;have hle2:=HKK2.o.nodes.le;have hcap2:=HKK2.o.nodes.cap;unfold maxLen at hcap2;clear hq hd hc1 hc2 hx hx' hkk hl hkp HI;go_wp2
     go_region_held3 (fun w'=> w'.cell? ⟨c,0,none⟩=some (.func (Fn.func 66) #[] #[.pointer (some ⟨c,0,none⟩)])∧w'.cell? ⟨b1,o1 + 2,none⟩=some (M (some ⟨b,off,none⟩) kids1.length kc1)∧w'.cell? ⟨b2,o2 + 2,none⟩=some (M (some ⟨b',off',none⟩) kids2.length kc2))
      (first | exact ⟨x3,x1,x2⟩ | exact ⟨E1.o.c x3,E1.o.c x1,E1.o.c x2⟩)
      (first
       | (go_at_call 66;refine Calls.mono (HCALL.o _ ((Keeps.refl [] wr).drew)) ?_;rintro e w3 ⟨rfl,hk3⟩;have E1:=gi (((Keeps.refl [] wr).drew).trans hk3);clear hk3))
     have HK3:=gi (HK.o.trans E1.o);clear x1 x2 x3 E1 HCALL
     by_cases hq:q=0
     ·have hdd:=HD.o;rw [if_neg (by simp [hq])] at hdd;have HDE:=gi hdd;clear hdd HD;subst hq;go_wp2;go_roundw
      case rel=> exact ⟨k + 1,by omega,by go_num,HDE.o.symm,HK3.o⟩
      case measure=> simp [intOf];omega
     ·have hdd:=HD.o;rw [if_pos hq] at hdd;have HDD:=gi hdd;have hqb:(q !=0)=true:=by simp [hq]
      clear hdd HD;go_wp2;go_ret;exact ⟨by rw [HCM.o,HDD.o];rfl,HKA.o.trans HK3.o⟩
    ·obtain rfl:k=kids1.length:=by omega
     have h0:cmpTs (MRe.trees kids1) (MRe.trees kids2)=0:=by rw [←hl,List.drop_of_length_le (by rw [MRe.trees_length];omega)];simp [cmpTs]
     have HH0:=gi h0;clear hl hkp h0;go_wp2;go_ret;exact ⟨by rw [HCM.o,HH0.o];rfl,HKA.o.trans HK.o⟩
  ·have hcm:=HCMP.o;rw [if_pos hz] at hcm;have HCM:=gi hcm;have hqb:(q !=0)=true:=by simp [hz]
   clear hcm HCMP HLEN;go_wp2;go_ret;exact ⟨by rw [HCM.o];rfl,HKA.o⟩
theorem acompare_any (m1 m2:MRe) (w:World) (k1:m1.OK w) (k2:m2.OK w):
  Calls Tryz.prog 31 #[m1.val,m2.val] w fun e w'=> e=.returned (H J (cmpT m1.tree m2.tree))∧Keeps [] w w':=by
 have HW:=gi (compareWalk_any m1 m2);have HK1:=gi k1;have HK2:=gi k2;obtain ⟨r1,hr1⟩:∃ r,r=m1:=⟨_,rfl⟩;obtain ⟨r2,hr2⟩:∃ r,r=m2:=⟨_,rfl⟩;obtain ⟨op1,sa1,sc1,set1,ka1,kc1,kids1,mn1,mx1,mode1,n1,neg1⟩:=m1;obtain ⟨op2,sa2,sc2,set2,ka2,kc2,kids2,mn2,mx2,mode2,n2,neg2⟩:=m2;simp only [MRe.val];have hmf:∀ (fn:Fn) (first cap:Array Value) (w:World),(Instr.makeFunc fn first cap).run Tryz.prog w=.ok (.func fn first cap) w:=fun _ _ _ _=> rfl;rw [←hr1] at HW HK1 ⊢;rw [←hr2] at HW HK2 ⊢;have R1:r1.row=[H J op1,M sa1 set1.length sc1,M ka1 kids1.length kc1,H J mn1,H J mx1,H J mode1,H J n1,F neg1]:=by rw [hr1];rfl
 have R2:r2.row=[H J op2,M sa2 set2.length sc2,M ka2 kids2.length kc2,H J mn2,H J mx2,H J mode2,H J n2,F neg2]:=by rw [hr2];rfl
 have HR1:=gi R1;have HR2:=gi R2;clear hr1 hr2 R1 R2 k1 k2;go_enter Tryz.func31,Tryz.ntmps31
 go_wp2_with fail
 refine Calls.mono (HW.o w.heap.size 0 (w.heap.size + 1) 0 (w.heap.size + 1 + 1) _ ?_ ?_ ?_ ?_ ?_) ?_
 ·exact At8.keep (At8.box HR1.o.symm) (Keeps.a2 _ _ _)
 ·have h:=At8.box (w:=w.alloc (.cells #[H J op1,M sa1 set1.length sc1,M ka1 kids1.length kc1,H J mn1,H J mx1,H J mode1,H J n1,F neg1] 26)) (T:=26) HR2.o.symm;rw [show (w.alloc (.cells #[H J op1,M sa1 set1.length sc1,M ka1 kids1.length kc1,H J mn1,H J mx1,H J mode1,H J n1,F neg1] 26)).heap.size=w.heap.size + 1 by simp] at h;exact h.keep (Keeps.a1 _ _)
 ·exact HK1.o.keep (Keeps.a3 w _ _ _)
 ·exact HK2.o.keep (Keeps.a3 w _ _ _)
 ·have h:=cell_new ((w.alloc (.cells #[H J op1,M sa1 set1.length sc1,M ka1 kids1.length kc1,H J mn1,H J mx1,H J mode1,H J n1,F neg1] 26)).alloc (.cells #[H J op2,M sa2 set2.length sc2,M ka2 kids2.length kc2,H J mn2,H J mx2,H J mode2,H J n2,F neg2] 26)) #[.func (Fn.func 66) #[] #[.pointer (some ⟨w.heap.size + 1 + 1,0,none⟩)]] 92 0
  simpa using h
 rintro e w2 ⟨rfl,hk⟩;have HK:=gi ((Keeps.a3 w _ _ _).trans hk);clear hk;go_wp2;go_ret;exact ⟨rfl,HK.o⟩
theorem equal_any (m1 m2:MRe) (w:World) (k1:m1.OK w) (k2:m2.OK w):
  Calls Tryz.prog 117 #[m1.val,m2.val] w fun e w'=> e=.returned (F (eqB m1.tree m2.tree))∧Keeps [] w w':=by
 have HW:=gi (fun W (h:Keeps [] w W)=> acompare_any m1 m2 W (k1.keep h) (k2.keep h));obtain ⟨T1,h1⟩:∃ T,T=m1.tree:=⟨_,rfl⟩;obtain ⟨T2,h2⟩:∃ T,T=m2.tree:=⟨_,rfl⟩;rw [←h1,←h2] at HW ⊢;obtain ⟨op1,sa1,sc1,set1,ka1,kc1,kids1,mn1,mx1,mode1,n1,neg1⟩:=m1;obtain ⟨op2,sa2,sc2,set2,ka2,kc2,kids2,mn2,mx2,mode2,n2,neg2⟩:=m2;simp only [MRe.val] at HW ⊢;clear k1 k2 h1 h2;go_enter Tryz.func117,Tryz.ntmps117
 go_wp2_with fail
 refine Calls.mono (HW.o _ (Keeps.a2 w _ _)) ?_;rintro e w2 ⟨rfl,hk⟩;have HK:=gi ((Keeps.a2 w _ _).trans hk);clear hk;go_wp2;go_ret;refine ⟨?_,HK.o⟩;unfold eqB
 by_cases h:cmpT T1 T2=0
 ·simp [h]
 ·simp [h]
end Go.Proofs.YtjnlkjlbejelgaaGreat
