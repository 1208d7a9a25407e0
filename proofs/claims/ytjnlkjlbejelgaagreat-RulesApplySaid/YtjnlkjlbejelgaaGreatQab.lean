/- Part 2 of the proof. No condition: every lemma says its own. -/
import Derived.Test.YtjnlkjlbejelgaaGreatQaa
import Derived.Test.YtjnlkjlbejelgaaGreatProg
namespace Go.Proofs.YtjnlkjlbejelgaaGreat
open Go.RowKit
open Go.Value renaming int→H,slice→M,bool→F
open Go.IntKind renaming i64→J
set_option maxRecDepth 100000
set_option maxHeartbeats 16000000
inductive Tree where
 | node (op:Int) (set:List (Int × Int)) (kids:List Tree) (mn mx mode n:Int) (neg:Bool)
inductive MRe where
 | node (op:Int) (sa:Option Addr) (sc:Nat) (set:List (Int × Int)) (ka:Option Addr) (kc:Nat) (kids:List MRe) (mn mx mode n:Int) (neg:Bool)
mutual
def MRe.tree:MRe→Tree
 | .node op _ _ set _ _ kids mn mx mode n neg=> .node op set (MRe.trees kids) mn mx mode n neg
def MRe.trees:List MRe→List Tree
 | []=> []
 | k::ks=> k.tree::MRe.trees ks
end
theorem MRe.trees_eq (l:List MRe):MRe.trees l=l.map MRe.tree:=by
 induction l with
 | nil=> rfl
 | cons k ks ih=> simp [MRe.trees,ih]
theorem MRe.trees_length (l:List MRe):(MRe.trees l).length=l.length:=by simp [MRe.trees_eq]
namespace Tree
def op:Tree→Int | .node op _ _ _ _ _ _ _=> op
def set:Tree→List (Int × Int) | .node _ set _ _ _ _ _ _=> set
def kids:Tree→List Tree | .node _ _ kids _ _ _ _ _=> kids
def mn:Tree→Int | .node _ _ _ mn _ _ _ _=> mn
def mx:Tree→Int | .node _ _ _ _ mx _ _ _=> mx
def mode:Tree→Int | .node _ _ _ _ _ mode _ _=> mode
def n:Tree→Int | .node _ _ _ _ _ _ n _=> n
def neg:Tree→Bool | .node _ _ _ _ _ _ _ neg=> neg
def nil:Tree:=.node 0 [] [] 0 0 0 0 false
mutual
def bulk:Tree→Nat
 | .node _ set kids _ _ _ _ _=> 1 + set.length + bulks kids
def bulks:List Tree→Nat
 | []=> 0
 | k::ks=> k.bulk + bulks ks
end
theorem bulks_mem {k:Tree} {l:List Tree} (h:k∈l):k.bulk≤bulks l:=by
 induction l with
 | nil=> simp at h
 | cons x xs ih=>
  rcases List.mem_cons.1 h with rfl | h
  ·simp [bulks]
  ·have:=ih h;simp only [bulks];omega
theorem bulk_pos (t:Tree):1≤t.bulk:=by cases t;simp only [bulk];omega
theorem length_le_bulks (l:List Tree):l.length≤bulks l:=by
 induction l with
 | nil=> simp [bulks]
 | cons x xs ih=> have:=bulk_pos x;simp only [List.length_cons,bulks];omega
theorem bulks_append (a b:List Tree):bulks (a ++ b)=bulks a + bulks b:=by
 induction a with
 | nil=> simp [bulks]
 | cons x xs ih=> simp only [List.cons_append,bulks,ih];omega
theorem bulks_take_drop (l:List Tree) (i:Nat):bulks l=bulks (l.take i) + bulks (l.drop i):=by
 rw [←bulks_append,List.take_append_drop]
theorem induct {P:Tree→Prop} (h:∀ op set kids mn mx mode n neg,(∀ k∈kids,P k)→P (.node op set kids mn mx mode n neg)):∀ t,P t:=by
 intro t
 induction hb:t.bulk using Nat.strongRecOn generalizing t with
 | _ b ih=>
  cases t with
  | node op set kids mn mx mode n neg=>
   refine h op set kids mn mx mode n neg fun k hk=> ih k.bulk ?_ k rfl;subst hb
   have:=bulks_mem hk
   simp only [bulk];omega
end Tree
namespace MRe
def row:MRe→List Value
 | .node op sa sc set ka kc kids mn mx mode n neg=> [H J op,M sa set.length sc,M ka kids.length kc,H J mn,H J mx,H J mode,H J n,F neg]
def val:MRe→Value
 | .node op sa sc set ka kc kids mn mx mode n neg=> .agg #[H J op,M sa set.length sc,M ka kids.length kc,H J mn,H J mx,H J mode,H J n,F neg]
theorem val_row (m:MRe):m.val=.agg m.row.toArray:=by cases m;rfl
theorem row_length (m:MRe):m.row.length=8:=by cases m;rfl
def op:MRe→Int | .node op _ _ _ _ _ _ _ _ _ _ _=> op
def set:MRe→List (Int × Int) | .node _ _ _ set _ _ _ _ _ _ _ _=> set
def kids:MRe→List MRe | .node _ _ _ _ _ _ kids _ _ _ _ _=> kids
def nil:MRe:=.node 0 none 0 [] none 0 [] 0 0 0 0 false
theorem nil_tree:nil.tree=Tree.nil:=rfl
theorem row_one (m:MRe):∀ u∈m.row,u.oneCell'=true:=by
 cases m
 intro u hu;simp [row] at hu
 rcases hu with rfl | rfl | rfl | rfl | rfl | rfl | rfl | rfl <;> rfl
end MRe
structure SpansIn (w:World) (sa:Option Addr) (sc:Nat) (set:List (Int × Int)):Prop where
 le:set.length≤sc
 cap:sc≤maxLen
 nil_:sa=none→sc=0
 at_:0 < sc→∃ b off,sa=some ⟨b,off,none⟩∧b < w.heap.size∧∀ i (h:i < set.length),w.cell? ⟨b,off + i * 2,none⟩=some (H J set[i].1)∧w.cell? ⟨b,off + i * 2 + 1,none⟩=some (H J set[i].2)
structure NodesIn (w:World) (ka:Option Addr) (kc:Nat) (kids:List MRe):Prop where
 le:kids.length≤kc
 cap:kc≤maxLen
 nil_:ka=none→kc=0
 at_:0 < kc→∃ b off,ka=some ⟨b,off,none⟩∧b < w.heap.size∧∀ i (h:i < kids.length) j (hj:j < kids[i].row.length),w.cell? ⟨b,off + i * 8 + j,none⟩=some kids[i].row[j]
inductive MRe.OK (w:World):MRe→Prop
 | mk {op sa sc set ka kc kids mn mx mode n neg} (hs:SpansIn w sa sc set) (hk:NodesIn w ka kc kids) (hr:∀ k,k∈kids→MRe.OK w k):MRe.OK w (.node op sa sc set ka kc kids mn mx mode n neg)
theorem SpansIn.keep {w w':World} {sa:Option Addr} {sc:Nat} {set:List (Int × Int)} (h:SpansIn w sa sc set) (k:Keeps [] w w'):SpansIn w' sa sc set:=
 ⟨h.le,h.cap,h.nil_,fun h0=> by
  obtain ⟨b,off,h1,hb,h2⟩:=h.at_ h0;exact ⟨b,off,h1,Nat.lt_of_lt_of_le hb k.size,fun i hi=> ⟨k.cell (h2 i hi).1 (by simp),k.cell (h2 i hi).2 (by simp)⟩⟩⟩
theorem NodesIn.keep {w w':World} {ka:Option Addr} {kc:Nat} {kids:List MRe} (h:NodesIn w ka kc kids) (k:Keeps [] w w'):NodesIn w' ka kc kids:=
 ⟨h.le,h.cap,h.nil_,fun h0=> by
  obtain ⟨b,off,h1,hb,h2⟩:=h.at_ h0;exact ⟨b,off,h1,Nat.lt_of_lt_of_le hb k.size,fun i hi j hj=> k.cell (h2 i hi j hj) (by simp)⟩⟩
theorem MRe.OK.keep {w w':World} (k:Keeps [] w w') {m:MRe} (h:m.OK w):m.OK w':=by
 induction h with
 | mk hs hk _ ih=> exact .mk (hs.keep k) (hk.keep k) ih
theorem MRe.OK.spans {w:World} {op sa sc set ka kc kids mn mx mode n neg} (h:MRe.OK w (.node op sa sc set ka kc kids mn mx mode n neg)):SpansIn w sa sc set:=by cases h;assumption
theorem MRe.OK.nodes {w:World} {op sa sc set ka kc kids mn mx mode n neg} (h:MRe.OK w (.node op sa sc set ka kc kids mn mx mode n neg)):NodesIn w ka kc kids:=by cases h;assumption
theorem MRe.OK.kid {w:World} {op sa sc set ka kc kids mn mx mode n neg} (h:MRe.OK w (.node op sa sc set ka kc kids mn mx mode n neg)) {k:MRe} (hk:k∈kids):k.OK w:=by cases h with | mk _ _ hr=> exact hr k hk
structure KidsIn (w:World) (ka:Option Addr) (kc:Nat) (kids:List MRe):Prop where
 nodes:NodesIn w ka kc kids
 all:∀ k∈kids,k.OK w
theorem KidsIn.keep {w w':World} {ka:Option Addr} {kc:Nat} {kids:List MRe} (h:KidsIn w ka kc kids) (k:Keeps [] w w'):KidsIn w' ka kc kids:=⟨h.nodes.keep k,fun x hx=> (h.all x hx).keep k⟩
theorem MRe.OK.kids {w:World} {op sa sc set ka kc kids mn mx mode n neg} (h:MRe.OK w (.node op sa sc set ka kc kids mn mx mode n neg)):KidsIn w ka kc kids:=⟨h.nodes,fun _ hk=> h.kid hk⟩
theorem MRe.OK.of {w:World} {op sa sc set ka kc kids mn mx mode n neg} (hs:SpansIn w sa sc set) (hk:KidsIn w ka kc kids):MRe.OK w (.node op sa sc set ka kc kids mn mx mode n neg):=.mk hs hk.nodes hk.all
theorem SpansIn.nil (w:World):SpansIn w none 0 []:=⟨by simp,by unfold maxLen;omega,fun _=> rfl,fun h=> by omega⟩
theorem NodesIn.nil (w:World):NodesIn w none 0 []:=⟨by simp,by unfold maxLen;omega,fun _=> rfl,fun h=> by omega⟩
theorem KidsIn.nil (w:World):KidsIn w none 0 []:=⟨NodesIn.nil w,by simp⟩
theorem MRe.OK.nil (w:World):MRe.nil.OK w:=.of (SpansIn.nil w) (KidsIn.nil w)
structure NodeAt (w:World) (b o:Nat) (op:Int) (sa:Option Addr) (ns sc:Nat) (ka:Option Addr) (nk kc:Nat) (mn mx mode n:Int) (neg:Bool):Prop where
 c0:w.cell? ⟨b,o,none⟩=some (H J op)
 c1:w.cell? ⟨b,o + 1,none⟩=some (M sa ns sc)
 c2:w.cell? ⟨b,o + 2,none⟩=some (M ka nk kc)
 c3:w.cell? ⟨b,o + 3,none⟩=some (H J mn)
 c4:w.cell? ⟨b,o + 4,none⟩=some (H J mx)
 c5:w.cell? ⟨b,o + 5,none⟩=some (H J mode)
 c6:w.cell? ⟨b,o + 6,none⟩=some (H J n)
 c7:w.cell? ⟨b,o + 7,none⟩=some (F neg)
def At8 (w:World) (b o:Nat) (m:MRe):Prop:=∀ j (hj:j < m.row.length),w.cell? ⟨b,o + j,none⟩=some m.row[j]
theorem At8.node {w:World} {b o:Nat} {op sa sc set ka kc kids mn mx mode n neg} (h:At8 w b o (.node op sa sc set ka kc kids mn mx mode n neg)):NodeAt w b o op sa set.length sc ka kids.length kc mn mx mode n neg:=
 ⟨h 0 (by rw [MRe.row_length];omega),h 1 (by rw [MRe.row_length];omega),h 2 (by rw [MRe.row_length];omega),h 3 (by rw [MRe.row_length];omega),h 4 (by rw [MRe.row_length];omega),h 5 (by rw [MRe.row_length];omega),h 6 (by rw [MRe.row_length];omega),h 7 (by rw [MRe.row_length];omega)⟩
theorem At8.keep {w w':World} {b o:Nat} {m:MRe} (h:At8 w b o m) (k:Keeps [] w w'):At8 w' b o m:=fun j hj=> k.cell (h j hj) (by simp)
theorem NodesIn.kid {w:World} {ka:Option Addr} {kc:Nat} {kids:List MRe} (h:NodesIn w ka kc kids) (h0:0 < kids.length):∃ b off,ka=some ⟨b,off,none⟩∧b < w.heap.size∧∀ i (h:i < kids.length),At8 w b (off + i * 8) kids[i]:=by
 obtain ⟨b,off,h1,hb,h2⟩:=h.at_ (by have:=h.le;omega);exact ⟨b,off,h1,hb,h2⟩
theorem At8.of_block {w:World} {b:Nat} {cs:Array Value} {T:Nat} {fz:Nat × Nat} {m:MRe} (h:w.heap[b]? =some (.cells cs T fz)) (hc:cs=m.row.toArray):At8 w b 0 m:=by
 subst hc;intro j hj;simp [World.cell?,h,hj]
def flatK (kids:List MRe):List Value:=kids.flatMap MRe.row
theorem flatK_length (kids:List MRe):(flatK kids).length=kids.length * 8:=by
 induction kids with
 | nil=> rfl
 | cons k ks ih=> simp only [flatK,List.flatMap_cons,List.length_append,MRe.row_length,List.length_cons] at ih ⊢;omega
theorem flatK_append (a b:List MRe):flatK (a ++ b)=flatK a ++ flatK b:=by simp [flatK]
theorem flatK_get (kids:List MRe) (i:Nat) (hi:i < kids.length) (j:Nat) (hj:j < kids[i].row.length):(flatK kids)[i * 8 + j]? =some kids[i].row[j]:=by
 induction kids generalizing i with
 | nil=> simp at hi
 | cons k ks ih=>
  have hk:=MRe.row_length k
  cases i with
  | zero=>
   have hj':j < k.row.length:=hj;simp only [flatK,List.flatMap_cons,Nat.zero_mul,Nat.zero_add,List.getElem_cons_zero];rw [List.getElem?_append_left hj',List.getElem?_eq_getElem hj']
  | succ i=>
   have:=ih i (by simpa using hi) hj
   simp only [flatK,List.flatMap_cons,List.getElem_cons_succ] at this ⊢;rw [List.getElem?_append_right (by omega),hk,show (i + 1) * 8 + j - 8=i * 8 + j by omega];exact this
theorem flatK_one (kids:List MRe):∀ u∈flatK kids,u.oneCell'=true:=by
 intro u hu;obtain ⟨k,_,h⟩:=List.mem_flatMap.1 hu;exact k.row_one u h
def flatP (set:List (Int × Int)):List Value:=set.flatMap fun s=> [H J s.1,H J s.2]
theorem flatP_length (set:List (Int × Int)):(flatP set).length=set.length * 2:=by
 induction set with
 | nil=> rfl
 | cons k ks ih=> simp only [flatP,List.flatMap_cons,List.length_append,List.length_cons,List.length_nil] at ih ⊢;omega
theorem flatP_append (a b:List (Int × Int)):flatP (a ++ b)=flatP a ++ flatP b:=by simp [flatP]
theorem flatP_get (set:List (Int × Int)) (i:Nat) (hi:i < set.length):(flatP set)[i * 2]? =some (H J set[i].1)∧(flatP set)[i * 2 + 1]? =some (H J set[i].2):=by
 induction set generalizing i with
 | nil=> simp at hi
 | cons k ks ih=>
  cases i with
  | zero=> simp [flatP]
  | succ i=>
   have:=ih i (by simpa using hi)
   have e:flatP (k::ks)=H J k.1::H J k.2::flatP ks:=rfl;rw [e,show (i + 1) * 2=i * 2 + 2 by omega]
   simpa using this
theorem flatP_one (set:List (Int × Int)):∀ u∈flatP set,u.oneCell'=true:=by
 intro u hu;obtain ⟨k,_,h⟩:=List.mem_flatMap.1 hu;simp at h
 rcases h with rfl | rfl <;> rfl
theorem NodesIn.of_sl {w:World} {e:Nat} {a:Option Nat} {n c:Nat} {kids:List MRe} (h:SliceAt w e 8 a n c (flatK kids)):NodesIn w (a.map fun g=> ⟨g,0,none⟩) c kids:=by
 have hl:kids.length=n:=by have:=h.1;rw [flatK_length] at this;omega
 cases a with
 | none=> obtain ⟨_,h2,h3⟩:=h;subst h3;exact ⟨by omega,by unfold maxLen;omega,fun _=> rfl,fun h0=> by omega⟩
 | some g=>
  have hc:=h.cell;have hb:=h.lt;obtain ⟨_,cur,h2,h3,h4,_⟩:=h;refine ⟨by omega,h4,by simp,fun _=> ⟨g,0,rfl,hb,fun i hi j hj=> ?_⟩⟩;have h5:=flatK_get kids i hi j hj;obtain ⟨h6,h7⟩:=List.getElem?_eq_some_iff.1 h5;rw [Nat.zero_add,hc _ h6,h7]
theorem SpansIn.of_sl {w:World} {e:Nat} {a:Option Nat} {n c:Nat} {set:List (Int × Int)} (h:SliceAt w e 2 a n c (flatP set)):SpansIn w (a.map fun g=> ⟨g,0,none⟩) c set:=by
 have hl:set.length=n:=by have:=h.1;rw [flatP_length] at this;omega
 cases a with
 | none=> obtain ⟨_,h2,h3⟩:=h;subst h3;exact ⟨by omega,by unfold maxLen;omega,fun _=> rfl,fun h0=> by omega⟩
 | some g=>
  have hc:=h.cell;have hb:=h.lt;obtain ⟨_,cur,h2,h3,h4,_⟩:=h;refine ⟨by omega,h4,by simp,fun _=> ⟨g,0,rfl,hb,fun i hi=> ?_⟩⟩;obtain ⟨h5,h6⟩:=flatP_get set i hi;obtain ⟨h7,h8⟩:=List.getElem?_eq_some_iff.1 h5;obtain ⟨h9,h10⟩:=List.getElem?_eq_some_iff.1 h6;rw [Nat.zero_add,hc _ h7,h8,hc _ h9,h10];exact ⟨rfl,rfl⟩
theorem NodesIn.of_block {w:World} {b:Nat} {cs:Array Value} {T:Nat} {fz:Nat × Nat} {kids:List MRe} (h:w.heap[b]? =some (.cells cs T fz)) (hc:cs.toList=flatK kids) (hm:kids.length≤maxLen):NodesIn w (some ⟨b,0,none⟩) kids.length kids:=by
 refine ⟨Nat.le_refl _,hm,by simp,fun _=> ⟨b,0,rfl,lt_of_block h,fun i hi j hj=> ?_⟩⟩;have h5:=flatK_get kids i hi j hj;rw [Nat.zero_add];simp only [World.cell?,h];rw [←hc] at h5
 simpa using h5
theorem SpansIn.of_block {w:World} {b:Nat} {cs:Array Value} {T:Nat} {fz:Nat × Nat} {set:List (Int × Int)} (h:w.heap[b]? =some (.cells cs T fz)) (hc:cs.toList=flatP set) (hm:set.length≤maxLen):SpansIn w (some ⟨b,0,none⟩) set.length set:=by
 refine ⟨Nat.le_refl _,hm,by simp,fun _=> ⟨b,0,rfl,lt_of_block h,fun i hi=> ?_⟩⟩;obtain ⟨h5,h6⟩:=flatP_get set i hi;rw [Nat.zero_add];simp only [World.cell?,h];rw [←hc] at h5 h6;exact ⟨by simpa using h5,by simpa using h6⟩
theorem NodesIn.flat {w:World} {ka:Option Addr} {kc:Nat} {kids:List MRe} (h:NodesIn w ka kc kids) (h0:0 < kids.length):∃ b off,ka=some ⟨b,off,none⟩∧b < w.heap.size∧∀ j u,(flatK kids)[j]? =some u→w.cell? ⟨b,off + j,none⟩=some u:=by
 obtain ⟨b,off,h1,hb,h2⟩:=h.at_ (by have:=h.le;omega);refine ⟨b,off,h1,hb,fun j u hu=> ?_⟩;have hj:j < (flatK kids).length:=(List.getElem?_eq_some_iff.1 hu).1;rw [flatK_length] at hj;have hi:j / 8 < kids.length:=by omega
 have hr:j % 8 < kids[j / 8].row.length:=by rw [MRe.row_length];omega
 have h3:=h2 (j / 8) hi (j % 8) hr;have h4:=flatK_get kids (j / 8) hi (j % 8) hr;rw [show j / 8 * 8 + j % 8=j by omega,hu] at h4;rw [show off + j / 8 * 8 + j % 8=off + j by omega] at h3;rw [h3,h4]
theorem SpansIn.flat {w:World} {ka:Option Addr} {kc:Nat} {set:List (Int × Int)} (h:SpansIn w ka kc set) (h0:0 < set.length):∃ b off,ka=some ⟨b,off,none⟩∧b < w.heap.size∧∀ j u,(flatP set)[j]? =some u→w.cell? ⟨b,off + j,none⟩=some u:=by
 obtain ⟨b,off,h1,hb,h2⟩:=h.at_ (by have:=h.le;omega);refine ⟨b,off,h1,hb,fun j u hu=> ?_⟩;have hj:j < (flatP set).length:=(List.getElem?_eq_some_iff.1 hu).1;rw [flatP_length] at hj;have hi:j / 2 < set.length:=by omega
 obtain ⟨h3,h4⟩:=h2 (j / 2) hi;obtain ⟨h5,h6⟩:=flatP_get set (j / 2) hi
 rcases (show j=j / 2 * 2∨j=j / 2 * 2 + 1 by omega) with e | e
 ·rw [e,h5] at hu;cases hu;rw [←h3];congr 2;omega
 ·rw [e,h6] at hu;cases hu;rw [←h4];congr 2;omega
theorem add_none (b o j:Nat):(⟨b,o,none⟩:Addr).add j=⟨b,o + j,none⟩:=by unfold Addr.add;split <;> simp_all
theorem cell_new (w:World) (cs:Array Value) (T i:Nat):(w.alloc (.cells cs T)).cell? ⟨w.heap.size,i,none⟩=cs[i]?:=by
 have h:=heap_alloc_new w (.cells cs T);unfold World.cell?;rw [h]
 rfl
theorem At8.box {w:World} {cs:Array Value} {T:Nat} {m:MRe} (h:cs.toList=m.row):At8 (w.alloc (.cells cs T)) w.heap.size 0 m:=
 At8.of_block (heap_alloc_new w _) (by rw [←h])
theorem Keeps.a1 (w:World) (a:Obj):Keeps [] w (w.alloc a):=(Keeps.refl [] w).alloc a
theorem Keeps.a2 (w:World) (a b:Obj):Keeps [] w ((w.alloc a).alloc b):=(Keeps.a1 w a).alloc b
theorem Keeps.a3 (w:World) (a b c:Obj):Keeps [] w (((w.alloc a).alloc b).alloc c):=(Keeps.a2 w a b).alloc c
theorem Keeps.a4 (w:World) (a b c d:Obj):Keeps [] w ((((w.alloc a).alloc b).alloc c).alloc d):=(Keeps.a3 w a b c).alloc d
theorem NodesIn.drop {w:World} {b off kc:Nat} {kids:List MRe} (h:NodesIn w (some ⟨b,off,none⟩) kc kids) (i:Nat) (hi:i≤kids.length):NodesIn w (if kc=i then some ⟨b,off,none⟩ else some ⟨b,off + i * 8,none⟩) (kc - i) (kids.drop i):=by
 have hle:=h.le;have hcap:=h.cap;refine ⟨by rw [List.length_drop];omega,by omega,by split <;> simp,fun h0=> ?_⟩;rw [if_neg (by omega)];obtain ⟨b',off',h1,hb,h2⟩:=h.at_ (by omega)
 cases h1
 refine ⟨b,off + i * 8,rfl,hb,fun k hk j hj=> ?_⟩;have hk':i + k < kids.length:=by rw [List.length_drop] at hk;omega
 have:=h2 (i + k) hk' j (by rw [MRe.row_length] at hj ⊢;exact hj)
 rw [show off + i * 8 + k * 8 + j=off + (i + k) * 8 + j by omega,this]
 simp
theorem NodesIn.take {w:World} {ka:Option Addr} {kc:Nat} {kids:List MRe} (h:NodesIn w ka kc kids) (i:Nat):NodesIn w ka kc (kids.take i):=by
 have hle:=h.le;refine ⟨by rw [List.length_take];omega,h.cap,h.nil_,fun h0=> ?_⟩;obtain ⟨b,off,h1,hb,h2⟩:=h.at_ h0;refine ⟨b,off,h1,hb,fun k hk j hj=> ?_⟩;have hk':k < kids.length:=by rw [List.length_take] at hk;omega
 have:=h2 k hk' j (by rw [MRe.row_length] at hj ⊢;exact hj)
 rw [this]
 simp
theorem run_append_zero {P:Program} (w:World) (t ty e:TypeId) (i:TypeInfo) (ht:P.underlying t=some (.slice e)) (hi:P.info? e=some i) (base:Option Addr) (n c:Nat) (xa:Option Addr) (cc:Nat) (hn:n≤c):
  (Builtin.append_ #[t,t] ty #[M base n c,M xa 0 cc]).run P w=.ok (M base n c) w:=by
 have hfc:(Builtin.firstCells i.size 0 (M xa 0 cc)).run P w=.ok #[] w:=by
  cases xa with
  | none=> simp [Builtin.firstCells]
  | some a=> simpa using run_firstCells_some (P:=P) (w:=w) i.size 0 a 0 cc [] (by simp) (by simp)
 have hst:∀ (a:Addr),(storeCells a []).run P w=.ok () w:=fun a=> by simp [storeCells]
 cases base with
 | none=> simp [Builtin.append_,run_underlying ht,typeInfo,hi,hfc,Builtin.lenOf,hn,sizeOf]
 | some a=> simp [Builtin.append_,run_underlying ht,typeInfo,hi,hfc,Builtin.lenOf,hn,hst,sizeOf]
theorem run_append_any {P:Program} (w:World) (t ty e:TypeId) (i:TypeInfo) (z:Value) (size bytes:Nat) (ht:P.underlying t=some (.slice e)) (hi:P.info? e=some i) (hz:i.zero=some z)
  (hsize:i.size=size) (hby:i.bytes=bytes) (hzs:z.cells.size=size) (hsz:0 < size)
  (a:Option Nat) (n c:Nat) (xs:List Value) (hown:SliceAt w e size a n c xs)
  (xa:Option Addr) (m cc:Nat) (news:List Value) (hl:news.length=m * size) (hnews:0 < m→∃ ad,xa=some ad∧∀ j u,news[j]? =some u→w.cell? (ad.add j)=some u) (h1:∀ u∈news,u.oneCell'=true)
  (hlen:n + m≤140737488355328) (hbytes:(n + m) * bytes≤140737488355328):
  ∃ a' c' w',(Builtin.append_ #[t,t] ty #[sv a n c,M xa m cc]).run P w=.ok (sv a' (n + m) c') w'∧SliceAt w' e size a' (n + m) c' (xs ++ news)∧Keeps a.toList w w'∧(a'=a∨∃ g,a'=some g∧w.heap.size≤g):=by
 by_cases hm:m=0
 ·subst hm;have hx:news=[]:=List.eq_nil_of_length_eq_zero (by simpa using hl);subst hx;have hnc:n≤c:=by
   cases a with
   | none=> obtain ⟨_,h2,h3⟩:=hown;omega
   | some g=> obtain ⟨_,cur,_,h3,_⟩:=hown;exact h3
  exact ⟨a,c,w,run_append_zero w t ty e i ht hi _ n c xa cc hnc,by simpa using hown,Keeps.refl _ _,.inl rfl⟩
 ·obtain ⟨ad,rfl,hc⟩:=hnews (by omega);obtain ⟨g,c',w',hr,h2,h3,h4⟩:=run_append_sl (P:=P) w t ty e i z size bytes ht hi hz hsize hby hzs hsz a n c xs hown ad m cc news hl hc h1 (by omega) hlen hbytes;refine ⟨some g,c',w',hr,h2,h3,?_⟩
  rcases h4 with h | h
  ·exact .inl h.symm
  ·exact .inr ⟨g,rfl,h⟩
theorem wpList_append_any {P:Program} {w:World} {ops:Array Oper} {rest:List Oper} {o:Oper} {A:Act} {Q:Exit→Act→World→Prop} (hgd:o.guard=none) (s x:Operand) (t:TypeId)
  (ho:o.op=.call {callee:=.builtin .append,args:=#[s,x],argTypes:=#[t,t]})
  (e:TypeId) (i:TypeInfo) (z:Value) (size bytes:Nat) (ht:P.underlying t=some (.slice e)) (hi:P.info? e=some i) (hz:i.zero=some z)
  (hsize:i.size=size) (hby:i.bytes=bytes) (hzs:z.cells.size=size) (hsz:0 < size)
  (a:Option Nat) (n c:Nat) (xs:List Value) (hs:A.eval s=sv a n c) (hown:SliceAt w e size a n c xs)
  (xa:Option Addr) (m cc:Nat) (news:List Value) (hx:A.eval x=M xa m cc) (hl:news.length=m * size) (hnews:0 < m→∃ ad,xa=some ad∧∀ j u,news[j]? =some u→w.cell? (ad.add j)=some u) (h1:∀ u∈news,u.oneCell'=true)
  (hlen:n + m≤140737488355328) (hbytes:(n + m) * bytes≤140737488355328)
  (h:∀ a' c' w',SliceAt w' e size a' (n + m) c' (xs ++ news)→Keeps a.toList w w'→(a'=a∨∃ g,a'=some g∧w.heap.size≤g)→wpList P ops Q rest (A.put o.dst (sv a' (n + m) c')) w'):wpList P ops Q (o::rest) A w:=
 wpList_plain hgd fun K hK=> by
  obtain ⟨a',c',w',hr,h2,h3,h4⟩:=run_append_any (P:=P) w t o.type e i z size bytes ht hi hz hsize hby hzs hsz a n c xs hown xa m cc news hl hnews h1 hlen hbytes;unfold Oper.wp execOp;simp only [ho,resolve,invoke,builtin,Sem.run_bind,Sem.run_pure,Result.andThen_ok,List.map_toArray,List.map_cons,List.map_nil,hs,hx,hr];exact hK _ _ (h a' c' w' h2 h3 h4)
theorem stepd_append_any {P:Program} {ops:Array Oper} {o:Oper} {A:Act} {w:World} {K:Act→World→Prop} {Q:Exit→Act→World→Prop} {E:Prop}
  (hg:o.guard=none) (s x:Operand) (t:TypeId) (hop:o.op=Op.call {callee:=Callee.builtin Builtin.append,args:=#[s,x],argTypes:=#[t,t]})
  (e:TypeId) (i:TypeInfo) (z:Value) (size bytes:Nat) (ht:P.underlying t=some (.slice e)) (hi:P.info? e=some i) (hz:i.zero=some z)
  (hsize:i.size=size) (hby:i.bytes=bytes) (hzs:z.cells.size=size) (hsz:0 < size)
  (a:Option Nat) (n c:Nat) (xs:List Value) (hs:A.eval s=sv a n c) (hown:SliceAt w e size a n c xs)
  (xa:Option Addr) (m cc:Nat) (news:List Value) (hx:A.eval x=M xa m cc) (hl:news.length=m * size) (hnews:0 < m→∃ ad,xa=some ad∧∀ j u,news[j]? =some u→w.cell? (ad.add j)=some u) (h1:∀ u∈news,u.oneCell'=true)
  (hlen:n + m≤140737488355328) (hbytes:(n + m) * bytes≤140737488355328)
  (h:∀ a' c' w',SliceAt w' e size a' (n + m) c' (xs ++ news)→Keeps a.toList w w'→(a'=a∨∃ g,a'=some g∧w.heap.size≤g)→K (A.put o.dst (sv a' (n + m) c')) w'):
  if Region.wanted o (yielded ops A.tmps)=true then Oper.wp P o A w K Q else E:=by
 have hw:Region.wanted o (yielded ops A.tmps)=true:=by simp [Region.wanted,hg]
 rw [if_pos hw];obtain ⟨a',c',w',hr,h2,h3,h4⟩:=run_append_any (P:=P) w t o.type e i z size bytes ht hi hz hsize hby hzs hsz a n c xs hown xa m cc news hl hnews h1 hlen hbytes;unfold Oper.wp execOp;simp only [hop,resolve,invoke,builtin,Sem.run_bind,Sem.run_pure,Result.andThen_ok,List.map_toArray,List.map_cons,List.map_nil,hs,hx,hr];exact h a' c' w' h2 h3 h4
theorem NodesIn.src {w:World} {ka:Option Addr} {kc:Nat} {kids:List MRe} (h:NodesIn w ka kc kids):0 < kids.length→∃ ad,ka=some ad∧∀ j u,(flatK kids)[j]? =some u→w.cell? (ad.add j)=some u:=fun h0=> by
 obtain ⟨b,off,h1,_,h2⟩:=h.flat h0;exact ⟨⟨b,off,none⟩,h1,fun j u hu=> by rw [add_none];exact h2 j u hu⟩
theorem SpansIn.src {w:World} {ka:Option Addr} {kc:Nat} {set:List (Int × Int)} (h:SpansIn w ka kc set):0 < set.length→∃ ad,ka=some ad∧∀ j u,(flatP set)[j]? =some u→w.cell? (ad.add j)=some u:=fun h0=> by
 obtain ⟨b,off,h1,_,h2⟩:=h.flat h0;exact ⟨⟨b,off,none⟩,h1,fun j u hu=> by rw [add_none];exact h2 j u hu⟩
def lexP:List (Int × Int)→Int
 | []=> 0
 | (a,b)::r=> if a < b then -1 else if b < a then 1 else lexP r
def digitI (b:Bool):Int:=if b then 1 else 0
def pairsN (a b:Tree):List (Int × Int):=[(a.mn,b.mn),(a.mx,b.mx),(a.mode,b.mode),(a.n,b.n),(digitI a.neg,digitI b.neg),((a.kids.length:Int),(b.kids.length:Int))]
def headN (a b:Tree):List (Int × Int):=[(a.op,b.op),((a.set.length:Int),(b.set.length:Int))]
def spanN (x y:Int × Int):List (Int × Int):=[(x.1,y.1),(x.2,y.2)]
def spansN:List (Int × Int)→List (Int × Int)→List (Int × Int)
 | x::xs,y::ys=> spanN x y ++ spansN xs ys
 | _,_=> []
def nodeN (a b:Tree):List (Int × Int):=headN a b ++ (spansN a.set b.set ++ pairsN a b)
mutual
def cmpT:Tree→Tree→Int
 | .node op set kids mn mx mode n neg,b=> if lexP (nodeN (.node op set kids mn mx mode n neg) b)≠0 then lexP (nodeN (.node op set kids mn mx mode n neg) b) else cmpTs kids b.kids
def cmpTs:List Tree→List Tree→Int
 | x::xs,y::ys=> if cmpT x y≠0 then cmpT x y else cmpTs xs ys
 | _,_=> 0
end
theorem cmpT_eq (a b:Tree):cmpT a b=if lexP (nodeN a b)≠0 then lexP (nodeN a b) else cmpTs a.kids b.kids:=by
 cases a;rw [cmpT];rfl
theorem lexP_append (a b:List (Int × Int)):lexP (a ++ b)=if lexP a≠0 then lexP a else lexP b:=by
 induction a with
 | nil=> simp [lexP]
 | cons x xs ih=>
  obtain ⟨p,q⟩:=x;simp only [List.cons_append,lexP,ih]
  by_cases h1:p < q
  ·simp [h1]
  ·by_cases h2:q < p
   ·simp [h1,h2]
   ·simp [h1,h2]
theorem lexP_zero {l:List (Int × Int)} (h:lexP l=0):∀ p∈l,p.1=p.2:=by
 induction l with
 | nil=> simp
 | cons x xs ih=>
  obtain ⟨p,q⟩:=x;simp only [lexP] at h
  split at h
  ·omega
  ·split at h
   ·omega
   ·intro y hy
    rcases List.mem_cons.1 hy with rfl | hy
    ·show p=q;omega
    ·exact ih h y hy
theorem lexP_self {l:List (Int × Int)} (h:∀ p∈l,p.1=p.2):lexP l=0:=by
 induction l with
 | nil=> rfl
 | cons x xs ih=>
  obtain ⟨p,q⟩:=x
  have:=h (p,q) (by simp)
  simp only at this;subst this;simp only [lexP,Int.lt_irrefl,if_false];exact ih fun y hy=> h y (by simp [hy])
theorem spansN_self (l:List (Int × Int)):∀ p∈spansN l l,p.1=p.2:=by
 induction l with
 | nil=> simp [spansN]
 | cons x xs ih=>
  intro p hp;simp only [spansN,spanN,List.cons_append,List.nil_append,List.mem_cons] at hp
  rcases hp with rfl | rfl | hp
  ·rfl
  ·rfl
  ·exact ih p hp
theorem spansN_eq:∀ {l m:List (Int × Int)},l.length=m.length→(∀ p∈spansN l m,p.1=p.2)→l=m
 | [],[],_,_=> rfl
 | x::xs,y::ys,hl,h=> by
  have h1:=h (x.1,y.1) (by simp [spansN,spanN]);have h2:=h (x.2,y.2) (by simp [spansN,spanN]);rw [spansN_eq (l:=xs) (m:=ys) (by simpa using hl) fun p hp=> h p (by simp [spansN,hp])];obtain ⟨x1,x2⟩:=x;obtain ⟨y1,y2⟩:=y;simp only at h1 h2;rw [h1,h2]
 | [],y::ys,hl,_=> by simp at hl
 | x::xs,[],hl,_=> by simp at hl
mutual
theorem cmpT_self:∀ a:Tree,cmpT a a=0
 | .node op set kids mn mx mode n neg=> by
  rw [cmpT,if_neg]
  ·exact cmpTs_self kids
  ·intro h
   apply h
   apply lexP_self
   intro p hp;simp only [nodeN,headN,pairsN,List.mem_append,List.mem_cons,List.not_mem_nil,or_false,Tree.set] at hp
   rcases hp with (rfl | rfl) | hp | rfl | rfl | rfl | rfl | rfl | rfl
   all_goals (try rfl)
   exact spansN_self set p hp
theorem cmpTs_self:∀ l:List Tree,cmpTs l l=0
 | []=> rfl
 | x::xs=> by rw [cmpTs,if_neg (by rw [cmpT_self x];simp)];exact cmpTs_self xs
end
mutual
theorem eq_of_cmpT:∀ (a b:Tree),cmpT a b=0→a=b
 | .node op set kids mn mx mode n neg,.node op' set' kids' mn' mx' mode' n' neg',h=> by
  rw [cmpT] at h
  split at h
  ·contradiction
  ·rename_i h0
   have h0:lexP (nodeN (.node op set kids mn mx mode n neg) (.node op' set' kids' mn' mx' mode' n' neg'))=0:=by simpa using h0
   have h1:=lexP_zero h0;have m1:=h1 (op,op') (by simp [nodeN,headN,Tree.op]);have m2:=h1 ((set.length:Int),(set'.length:Int)) (by simp [nodeN,headN,Tree.set]);have m3:=h1 (mn,mn') (by simp [nodeN,pairsN,Tree.mn]);have m4:=h1 (mx,mx') (by simp [nodeN,pairsN,Tree.mx]);have m5:=h1 (mode,mode') (by simp [nodeN,pairsN,Tree.mode]);have m6:=h1 (n,n') (by simp [nodeN,pairsN,Tree.n]);have m7:=h1 (digitI neg,digitI neg') (by simp [nodeN,pairsN,Tree.neg]);have m8:=h1 ((kids.length:Int),(kids'.length:Int)) (by simp [nodeN,pairsN,Tree.kids]);simp only at m1 m2 m3 m4 m5 m6 m7 m8;have m9:set=set':=spansN_eq (by omega) fun p hp=> h1 p (by simp [nodeN,Tree.set,hp]);have m10:neg=neg':=by cases neg <;> cases neg' <;> simp [digitI] at m7 <;> rfl
   have m11:kids=kids':=eq_of_cmpTs kids kids' (by omega) h;rw [m1,m3,m4,m5,m6,m9,m10,m11]
theorem eq_of_cmpTs:∀ (l m:List Tree),l.length=m.length→cmpTs l m=0→l=m
 | [],[],_,_=> rfl
 | x::xs,y::ys,hl,h=> by
  rw [cmpTs] at h
  split at h
  ·contradiction
  ·rename_i h0
   rw [eq_of_cmpT x y (by simpa using h0),eq_of_cmpTs xs ys (by simpa using hl) h]
 | [],y::ys,hl,_=> by simp at hl
 | x::xs,[],hl,_=> by simp at hl
end
theorem cmpT_zero (a b:Tree):cmpT a b=0↔a=b:=⟨eq_of_cmpT a b,fun h=> h ▸ cmpT_self a⟩
instance:DecidableEq Tree:=fun a b=> decidable_of_iff _ (cmpT_zero a b)
def eqB (a b:Tree):Bool:=decide (cmpT a b=0)
theorem eqB_iff (a b:Tree):eqB a b=true↔a=b:=by unfold eqB;rw [decide_eq_true_iff];exact cmpT_zero a b
theorem infoRe:(Tryz.prog.info? 26).map (fun i=> (i.zero,i.size,i.bytes))=some (some (.agg #[H J 0,M none 0 0,M none 0 0,H J 0,H J 0,H J 0,H J 0,F false]),8,96):=by kernel_rfl
theorem sizeRe:(Tryz.prog.info? 26).map (·.size)=some 8:=by kernel_rfl
def greedyB (op mn mx mode least most:Int):Bool:=op==4 && (mode==0 && (mn==least && mx==most))
theorem greedy_any (m:MRe) (least most:Int) (w:World):
  Calls Tryz.prog 126 #[m.val,H J least,H J most] w fun e w'=> e=.returned (F (greedyB m.tree.op m.tree.mn m.tree.mx m.tree.mode least most))∧Keeps [] w w':=by
 obtain ⟨op,sa,sc,set,ka,kc,kids,mn,mx,mode,n,neg⟩:=m;simp only [MRe.val,MRe.tree,Tree.op,Tree.mn,Tree.mx,Tree.mode]
 by_cases h1:op=4
 ·by_cases h2:mode=0
  ·by_cases h3:mn=least
   ·by_cases h4:mx=most
    all_goals
     go_enter Tryz.func126,Tryz.ntmps126
     go_wp2;go_ret;exact ⟨by simp [greedyB, *],(Keeps.refl [] w).alloc _⟩
   ·go_enter Tryz.func126,Tryz.ntmps126
    go_wp2;go_ret;exact ⟨by simp [greedyB, *],(Keeps.refl [] w).alloc _⟩
  ·go_enter Tryz.func126,Tryz.ntmps126
   go_wp2;go_ret;exact ⟨by simp [greedyB, *],(Keeps.refl [] w).alloc _⟩
 ·go_enter Tryz.func126,Tryz.ntmps126
  go_wp2;go_ret;exact ⟨by simp [greedyB, *],(Keeps.refl [] w).alloc _⟩
def starB (t:Tree):Bool:=greedyB t.op t.mn t.mx t.mode 0 (-1)
theorem star_any (m:MRe) (w:World):
  Calls Tryz.prog 125 #[m.val] w fun e w'=> e=.returned (F (starB m.tree))∧Keeps [] w w':=by
 obtain ⟨m',hm⟩:∃ m',m=m':=⟨_,rfl⟩;obtain ⟨op,sa,sc,set,ka,kc,kids,mn,mx,mode,n,neg⟩:=m;rw [show MRe.val (.node op sa sc set ka kc kids mn mx mode n neg)=.agg #[H J op,M sa set.length sc,M ka kids.length kc,H J mn,H J mx,H J mode,H J n,F neg] from rfl];have HG:=gi (fun W=> greedy_any m' 0 (-1) W);rw [←hm] at HG;simp only [MRe.val] at HG;clear hm;go_enter Tryz.func125,Tryz.ntmps125
 go_wp2_with fail
 refine Calls.mono (HG.o _) ?_;rintro e w2 ⟨rfl,hk⟩;have HK:=gi hk;clear hk;go_wp2;go_ret;exact ⟨rfl,((Keeps.refl [] w).alloc _).trans HK.o⟩
theorem rc {fn:Func} {R:Ending→World→Prop} {a:Act} {w:World} {p:Tmp} {g:Nat} {cs:Array Value} (hg:w.heap[g]? =some (.cells cs 26 (0,0))) (hR:R (.returned (.agg cs)) w) (h:fn.results=#[.cell p 26]:=by rfl) (hp:a.tmps.getD p undef=.pointer (some ⟨g,0,none⟩):=by rfl) (hi:8=cs.size:=by rfl) (hd:a.defers=[]:=by rfl):bodyPost Tryz.prog fn R .ret a w:=
 bodyPost_ret (results_cell_row h _ _ g 26 cs (0,0) _ hp hg Tryz.underlying26 rfl (by rw [sizeRe,hi])) hd hR
end Go.Proofs.YtjnlkjlbejelgaaGreat
