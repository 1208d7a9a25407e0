/- Part 1 of the proof. No condition: every lemma says its own. -/
import Derived.WalkKit
import Derived.WalkSpells
import Derived.WalkLawsBesides
import Derived.Lib.Hide
import Derived.Laws.CopyOwn
import Derived.Laws.MakeOwn
import Derived.Deep.QuietTactic
import Derived.Laws.AppendOwn
import Derived.Deep.RegionLawGrows
namespace Go.Proofs.YtjnlkjlbejelgaaGreat
open Go.RowKit
open Go.Value renaming int→H,slice→M,bool→F
open Go.IntKind renaming i64→J
set_option maxRecDepth 100000
set_option maxHeartbeats 16000000
structure Hd (p:Prop):Prop where
 o:p
theorem gi {p:Prop} (h:p):Hd p:=⟨h⟩
theorem js {a b c d:Prop} (h:a∧b∧c∧d):Hd a∧Hd b∧Hd c∧Hd d:=⟨⟨h.1⟩,⟨h.2.1⟩,⟨h.2.2.1⟩,⟨h.2.2.2⟩⟩
structure Keeps (S:List Nat) (w w':World):Prop where
 os:w'.os=w.os
 tape:w'.tape=w.tape
 output:w'.output=w.output
 size:w.heap.size≤w'.heap.size
 block:∀ k,k < w.heap.size→k ∉ S→w'.heap[k]? =w.heap[k]?
theorem Keeps.refl (S:List Nat) (w:World):Keeps S w w:=⟨rfl,rfl,rfl,Nat.le_refl _,fun _ _ _=> rfl⟩
theorem Keeps.trans {S:List Nat} {a b c:World} (h:Keeps S a b) (k:Keeps S b c):Keeps S a c:=
 ⟨k.os.trans h.os,k.tape.trans h.tape,k.output.trans h.output,Nat.le_trans h.size k.size,fun i hi hs=> (k.block i (Nat.lt_of_lt_of_le hi h.size) hs).trans (h.block i hi hs)⟩
theorem Keeps.mono {S S':List Nat} {w w':World} (h:Keeps S w w') (hS:∀ k,k∈S→k∈S'∨w.heap.size≤k):Keeps S' w w':=
 ⟨h.os,h.tape,h.output,h.size,fun k hk hs=> h.block k hk (fun hm=> by rcases hS k hm with h1 | h1;exact hs h1;omega)⟩
theorem Keeps.after {S S':List Nat} {a b c:World} (h:Keeps S a b) (k:Keeps S' b c) (hS:∀ x,x∈S'→x∈S∨a.heap.size≤x):Keeps S a c:=
 ⟨k.os.trans h.os,k.tape.trans h.tape,k.output.trans h.output,Nat.le_trans h.size k.size,fun i hi hs=>
  (k.block i (Nat.lt_of_lt_of_le hi h.size) (fun hm=> by rcases hS i hm with h1 | h1;exact hs h1;omega)).trans (h.block i hi hs)⟩
theorem Keeps.drew {S:List Nat} {a w:World} (h:Keeps S a w):Keeps S a w.drew:=⟨h.os,h.tape,h.output,h.size,h.block⟩
theorem Keeps.drewN {S:List Nat} {a w:World} (h:Keeps S a w) (n:Nat):Keeps S a (w.drewN n):=⟨h.os,h.tape,h.output,h.size,h.block⟩
theorem Keeps.alloc {S:List Nat} {a w:World} (h:Keeps S a w) (o:Obj):Keeps S a (w.alloc o):=
 h.trans ⟨rfl,rfl,rfl,by simp,fun k hk _=> Below.heap_alloc _ _ _ (by omega)⟩
theorem Keeps.setCell {S:List Nat} {a w:World} (h:Keeps S a w) {p:Addr} (hp:p.block∈S∨a.heap.size≤p.block) (u:Value):Keeps S a (w.setCell p u):=
 ⟨h.os,h.tape,h.output,by have:=h.size;simp [World.setCell];exact this,fun k hk hs=> by
  rw [Below.heap_setCell _ _ _ _ (fun e=> by rcases hp with h1 | h1;exact hs (e ▸ h1);omega)];exact h.block k hk hs⟩
theorem Keeps.setRow {S:List Nat} {a w:World} (h:Keeps S a w) {g:Nat} (hp:g∈S∨a.heap.size≤g) (cs:Array Value):Keeps S a (w.setRow g cs):=
 ⟨h.os,h.tape,h.output,by have:=h.size;simp;exact this,fun k hk hs=> by
  rw [setRow_other _ _ _ _ (fun e=> by rcases hp with h1 | h1;exact hs (e ▸ h1);omega)];exact h.block k hk hs⟩
theorem Keeps.below {B:Nat} {w w':World} (h:Keeps [] w w') (hB:B≤w.heap.size):Below B w w':=⟨h.os,h.tape,h.output,h.size,fun k hk=> h.block k (by omega) (by simp)⟩
theorem Keeps.of_grown {w w':World} {row:Option Nat} (hg:w.grownBy w' row):Keeps row.toList w w':=
 ⟨hg.os,hg.tape,hg.output,hg.size,fun k hk hs=> hg.block k hk (fun e=> hs (by rw [←e];simp))⟩
theorem Keeps.of_below {w w':World} (h:Below w.heap.size w w'):Keeps [] w w':=⟨h.os,h.tape,h.output,h.size,fun k hk _=> h.block k hk⟩
theorem Keeps.heap {S:List Nat} {w w':World} (h:Keeps S w w') {b:Nat} {o:Obj} (hb:w.heap[b]? =some o) (hs:b ∉ S):w'.heap[b]? =some o:=(h.block b (lt_of_block hb) hs).trans hb
theorem Keeps.cell {S:List Nat} {w w':World} (h:Keeps S w w') {a:Addr} {v:Value} (hc:w.cell? a=some v) (hs:a.block ∉ S):w'.cell? a=some v:=
 (World.cell?_of_block (h.block a.block (World.block_lt_of_cell? w a hc) hs)).trans hc
theorem Keeps.c {S:List Nat} {w w':World} {p:Addr} {v:Value} (k:Keeps S w w') (h:w.cell? p=some v) (hs:p.block ∉ S:=by simp):w'.cell? p=some v:=k.cell h hs
theorem Keeps.h {S:List Nat} {w w':World} {b:Nat} {o:Obj} (k:Keeps S w w') (h:w.heap[b]? =some o) (hs:b ∉ S:=by simp):w'.heap[b]? =some o:=k.heap h hs
theorem Keeps.c8 {S:List Nat} {w w':World} {p0 p1 p2 p3 p4 p5 p6 p7:Addr} {v0 v1 v2 v3 v4 v5 v6 v7:Value} (k:Keeps S w w') (h0:w.cell? p0=some v0) (h1:w.cell? p1=some v1) (h2:w.cell? p2=some v2) (h3:w.cell? p3=some v3) (h4:w.cell? p4=some v4) (h5:w.cell? p5=some v5) (h6:w.cell? p6=some v6) (h7:w.cell? p7=some v7) (hs:p0.block ∉ S∧p1.block ∉ S∧p2.block ∉ S∧p3.block ∉ S∧p4.block ∉ S∧p5.block ∉ S∧p6.block ∉ S∧p7.block ∉ S:=by simp):w'.cell? p0=some v0∧w'.cell? p1=some v1∧w'.cell? p2=some v2∧w'.cell? p3=some v3∧w'.cell? p4=some v4∧w'.cell? p5=some v5∧w'.cell? p6=some v6∧w'.cell? p7=some v7:=by
 obtain ⟨s0,s1,s2,s3,s4,s5,s6,s7⟩:=hs;exact ⟨k.cell h0 s0,k.cell h1 s1,k.cell h2 s2,k.cell h3 s3,k.cell h4 s4,k.cell h5 s5,k.cell h6 s6,k.cell h7 s7⟩
def Ints (E:Nat) (w:World) (b:Nat) (zs:List Int):Prop:=w.heap[b]? =some (.cells (zs.map (H J)).toArray E (0,0))
theorem Ints.lt {E:Nat} {w:World} {b:Nat} {zs:List Int} (h:Ints E w b zs):b < w.heap.size:=lt_of_block h
theorem Ints.fz {E:Nat} {w:World} {b:Nat} {zs:List Int} (h:Ints E w b zs) (i:Nat):w.frozen? ⟨b,i,none⟩=false:=by unfold Ints at h;simp [World.frozen?,h]
theorem Ints.cell {E:Nat} {w:World} {b:Nat} {zs:List Int} (h:Ints E w b zs) (i:Nat) (hi:i < zs.length):w.cell? ⟨b,i,none⟩=some (H J zs[i]):=by unfold Ints at h;simp [World.cell?,h,hi]
theorem Ints.drewN {E:Nat} {w:World} {b:Nat} {zs:List Int} (h:Ints E w b zs) (n:Nat):Ints E (w.drewN n) b zs:=h
theorem Ints.keep {E:Nat} {S:List Nat} {w w':World} {b:Nat} {zs:List Int} (h:Ints E w b zs) (k:Keeps S w w') (hs:b ∉ S):Ints E w' b zs:=k.heap h hs
theorem Ints.set {E:Nat} {w:World} {b:Nat} {zs:List Int} (h:Ints E w b zs) (i:Nat) (x:Int):Ints E (w.setCell ⟨b,i,none⟩ (H J x)) b (zs.set i x):=by
 have e:=heap_setCell_same w b i _ E (H J x) h;unfold Ints;rw [e]
 congr 2
 apply Array.ext'
 simp [List.map_set]
theorem Ints.alloc (E:Nat) (w:World) (zs:List Int):Ints E (w.alloc (.cells (zs.map (H J)).toArray E)) w.heap.size zs:=heap_alloc_new w _
theorem madeCells_one (v:Value) (n:Nat):madeCells #[v] n=(List.replicate n v).toArray:=by
 apply Array.ext
 ·simp [size_madeCells]
 ·intro j h1 h2;simp [madeCells,Nat.mod_one]
def sv (a:Option Nat) (n c:Nat):Value:=M (a.map fun g=> ⟨g,0,none⟩) n c
def SliceAt (w:World) (e size:Nat) (a:Option Nat) (n c:Nat) (xs:List Value):Prop:=
 xs.length=n * size∧
 match a with
 | none=> n=0∧c=0
 | some g=> ∃ cur:Array Value,w.heap[g]? =some (.cells cur e (0,0))∧n≤c∧c≤maxLen∧cur.size=c * size∧cur.toList.take (n * size)=xs
theorem SliceAt.nil (w:World) (e size:Nat):SliceAt w e size none 0 0 []:=⟨by simp,rfl,rfl⟩
theorem SliceAt.owns {w:World} {e size:Nat} {a:Option Nat} {n c:Nat} {xs:List Value} (h:SliceAt w e size a n c xs):w.ownsRow 0 e size (sv a n c) n xs:=by
 refine ⟨h.1,?_⟩
 cases a with
 | none=> obtain ⟨h1,rfl,rfl⟩:=h;exact .inl ⟨rfl,rfl⟩
 | some g=> obtain ⟨h1,cur,h2,h3,h4,h5,h6⟩:=h;exact .inr ⟨g,c,cur,rfl,Nat.zero_le _,h2,h3,h4,h5,h6⟩
theorem SliceAt.lt {w:World} {e size:Nat} {g:Nat} {n c:Nat} {xs:List Value} (h:SliceAt w e size (some g) n c xs):g < w.heap.size:=by
 obtain ⟨_,cur,h2,_⟩:=h;exact lt_of_block h2
theorem SliceAt.keep {S:List Nat} {w w':World} {e size:Nat} {a:Option Nat} {n c:Nat} {xs:List Value} (h:SliceAt w e size a n c xs) (k:Keeps S w w') (hs:∀ g,a=some g→g ∉ S):SliceAt w' e size a n c xs:=by
 refine ⟨h.1,?_⟩
 cases a with
 | none=> exact h.2
 | some g=> obtain ⟨h1,cur,h2,h3⟩:=h;exact ⟨cur,k.heap h2 (hs g rfl),h3⟩
theorem SliceAt.drewN {w:World} {e size:Nat} {a:Option Nat} {n c:Nat} {xs:List Value} (h:SliceAt w e size a n c xs) (k:Nat):SliceAt (w.drewN k) e size a n c xs:=h.keep ((Keeps.refl [] w).drewN k) (by simp)
theorem SliceAt.alloc {w:World} {e size:Nat} {a:Option Nat} {n c:Nat} {xs:List Value} (h:SliceAt w e size a n c xs) (o:Obj):SliceAt (w.alloc o) e size a n c xs:=h.keep ((Keeps.refl [] w).alloc o) (by simp)
theorem SliceAt.cell {w:World} {e size:Nat} {g:Nat} {n c:Nat} {xs:List Value} (h:SliceAt w e size (some g) n c xs) (i:Nat) (hi:i < xs.length):w.cell? ⟨g,i,none⟩=some xs[i]:=by
 obtain ⟨h1,cur,h2,h3,h4,h5,h6⟩:=h;subst h6;simp at hi;simp [World.cell?,h2]
theorem SliceAt.fz {w:World} {e size:Nat} {g:Nat} {n c:Nat} {xs:List Value} (h:SliceAt w e size (some g) n c xs) (i:Nat):w.frozen? ⟨g,i,none⟩=false:=by
 obtain ⟨h1,cur,h2,_⟩:=h;simp [World.frozen?,h2]
theorem SliceAt.of_row {w:World} {e size:Nat} {g:Nat} {cur:Array Value} {c:Nat} (h:w.heap[g]? =some (.cells cur e (0,0))) (hc:cur.size=c * size) (hm:c≤maxLen):SliceAt w e size (some g) c c cur.toList:=
 ⟨by simp [hc],cur,h,Nat.le_refl _,hm,hc,by rw [List.take_of_length_le (by simp [hc])]⟩
theorem news_row (w:World) (xs:List Value) (t:Nat):∀ j u,xs[j]? =some u→(w.alloc (.cells xs.toArray t)).cell? ((⟨w.heap.size,0,none⟩:Addr).add j)=some u:=by
 intro j u hj;have hadd:(⟨w.heap.size,0,none⟩:Addr).add j=⟨w.heap.size,j,none⟩:=by unfold Addr.add;split <;> simp_all
 rw [hadd,cell_of_row _ _ _ _ _ _ (heap_alloc_new w _)]
 simpa using hj
theorem news_row' (w:World) (xs:List Value) (t:Nat) (m:Nat) (hm:m=w.heap.size):∀ j u,xs[j]? =some u→(w.alloc (.cells xs.toArray t)).cell? ((⟨m,0,none⟩:Addr).add j)=some u:=by
 subst hm;exact news_row w xs t
theorem run_append_sl {P:Program} (w:World) (t ty e:TypeId) (i:TypeInfo) (z:Value) (size bytes:Nat) (ht:P.underlying t=some (.slice e)) (hi:P.info? e=some i) (hz:i.zero=some z)
  (hsize:i.size=size) (hby:i.bytes=bytes) (hzs:z.cells.size=size) (hsz:0 < size)
  (a:Option Nat) (n c:Nat) (xs:List Value) (hown:SliceAt w e size a n c xs)
  (ad:Addr) (m cc:Nat) (news:List Value) (hl:news.length=m * size) (hnews:∀ j u,news[j]? =some u→w.cell? (ad.add j)=some u) (h1:∀ u∈news,u.oneCell'=true)
  (hm:0 < m) (hlen:n + m≤140737488355328) (hbytes:(n + m) * bytes≤140737488355328):
  ∃ g c' w',(Builtin.append_ #[t,t] ty #[sv a n c,M (some ad) m cc]).run P w=.ok (M (some ⟨g,0,none⟩) (n + m) c') w'∧SliceAt w' e size (some g) (n + m) c' (xs ++ news)∧Keeps a.toList w w'∧(a=some g∨w.heap.size≤g):=by
 subst hsize;subst hby;have h63:n + m≤maxLen:=by unfold maxLen;omega
 have hlen2:(xs ++ news).length=(n + m) * i.size:=by rw [List.length_append,hown.1,hl,Nat.add_mul]
 have grown:∀ (old:Nat),old < n + m→
   SliceAt (w.drew.alloc (.cells (xs.toArray ++ news.toArray ++ Builtin.zeroCells z.cells (grownCap w (n + m) old e - (n + m))) e)) e i.size (some w.heap.size) (n + m) (grownCap w (n + m) old e) (xs ++ news):=by
  intro old ho;have hge:=grownCap_ge w (n + m) old e;have hcm:grownCap w (n + m) old e≤maxLen:=grownCap_le_maxLen w (n + m) old e h63;refine ⟨hlen2,_,heap_alloc_new w.drew _,hge,hcm,?_,?_⟩
  ·simp only [Array.size_append,List.size_toArray,size_zeroCells,hzs,hown.1,hl,←Nat.add_mul]
   congr 1
   omega
  ·simp only [Array.toList_append,List.append_assoc];rw [←List.append_assoc,←hlen2];exact List.take_left
 have hk:∀ o,Keeps a.toList w (w.drew.alloc o):=fun o=> ((Keeps.refl _ w).drew).alloc o
 cases a with
 | none=>
  obtain ⟨hx,rfl,rfl⟩:=hown;have hx:xs=[]:=List.eq_nil_of_length_eq_zero (by simpa using hx);subst hx;have hr:=run_append_nil (P:=P) w t ty e i z ht hi hz ad m cc news hl hnews (by omega) (by omega) (by have hb:=hbytes;simp only [Nat.zero_add] at hb;omega);have hgr:=grown 0 (by omega);simp only [Nat.zero_add,List.nil_append,Array.empty_append] at hgr ⊢;exact ⟨_,_,_,hr,hgr,hk _,.inr (Nat.le_refl _)⟩
 | some g=>
  obtain ⟨hx,cur,hg,hnc,hcm,hcs,htake⟩:=hown
  by_cases hroom:n + m≤c
  ·have hfit:n * i.size + news.length≤cur.size:=by rw [hl,hcs,←Nat.add_mul];exact Nat.mul_le_mul_right _ hroom
   have hr:=run_append_room (P:=P) w t ty e i ht hi g n c cur hg ad m cc news hl hnews h1 hroom hfit;refine ⟨_,_,_,hr,⟨hlen2,_,setRow_heap w g cur _ e _ hg,hroom,hcm,?_,?_⟩,(Keeps.refl _ w).setRow (by simp) _,.inl rfl⟩
   ·simp only [List.size_toArray,List.length_append,List.length_take,List.length_drop,Array.length_toList];omega
   ·rw [htake,←hlen2];exact List.take_left
  ·have hown:SliceAt w e i.size (some g) n c xs:=⟨hx,cur,hg,hnc,hcm,hcs,htake⟩;have holds:∀ j u,xs[j]? =some u→w.cell? ((⟨g,0,none⟩:Addr).add j)=some u:=hown.owns.cells (g:=g) rfl;have hr:=run_append_grow (P:=P) w t ty e i z ht hi hz ⟨g,0,none⟩ n c xs hx holds ad m cc news hl hnews (by omega) (by omega) (growslice_fits (by omega) hbytes);exact ⟨_,_,_,hr,grown c (by omega),hk _,.inr (Nat.le_refl _)⟩
theorem wpList_append_sl {P:Program} {w:World} {ops:Array Oper} {rest:List Oper} {o:Oper} {A:Act} {Q:Exit→Act→World→Prop} (hgd:o.guard=none) (s x:Operand) (t:TypeId)
  (ho:o.op=.call {callee:=.builtin .append,args:=#[s,x],argTypes:=#[t,t]})
  (e:TypeId) (i:TypeInfo) (z:Value) (size bytes:Nat) (ht:P.underlying t=some (.slice e)) (hi:P.info? e=some i) (hz:i.zero=some z)
  (hsize:i.size=size) (hby:i.bytes=bytes) (hzs:z.cells.size=size) (hsz:0 < size)
  (a:Option Nat) (n c:Nat) (xs:List Value) (hs:A.eval s=sv a n c) (hown:SliceAt w e size a n c xs)
  (ad:Addr) (m cc:Nat) (news:List Value) (hx:A.eval x=M (some ad) m cc) (hl:news.length=m * size) (hnews:∀ j u,news[j]? =some u→w.cell? (ad.add j)=some u) (h1:∀ u∈news,u.oneCell'=true)
  (hm:0 < m) (hlen:n + m≤140737488355328) (hbytes:(n + m) * bytes≤140737488355328)
  (h:∀ g c' w',SliceAt w' e size (some g) (n + m) c' (xs ++ news)→Keeps a.toList w w'→(a=some g∨w.heap.size≤g)→wpList P ops Q rest (A.put o.dst (M (some ⟨g,0,none⟩) (n + m) c')) w'):wpList P ops Q (o::rest) A w:=
 wpList_plain hgd fun K hK=> by
  obtain ⟨g,c',w',hr,h2,h3,h4⟩:=run_append_sl (P:=P) w t o.type e i z size bytes ht hi hz hsize hby hzs hsz a n c xs hown ad m cc news hl hnews h1 hm hlen hbytes;unfold Oper.wp execOp;simp only [ho,resolve,invoke,builtin,Sem.run_bind,Sem.run_pure,Result.andThen_ok,List.map_toArray,List.map_cons,List.map_nil,hs,hx,hr];exact hK _ _ (h g c' w' h2 h3 h4)
theorem stepd_append_sl {P:Program} {ops:Array Oper} {o:Oper} {A:Act} {w:World} {K:Act→World→Prop} {Q:Exit→Act→World→Prop} {E:Prop}
  (hg:o.guard=none) (s x:Operand) (t:TypeId) (hop:o.op=Op.call {callee:=Callee.builtin Builtin.append,args:=#[s,x],argTypes:=#[t,t]})
  (e:TypeId) (i:TypeInfo) (z:Value) (size bytes:Nat) (ht:P.underlying t=some (.slice e)) (hi:P.info? e=some i) (hz:i.zero=some z)
  (hsize:i.size=size) (hby:i.bytes=bytes) (hzs:z.cells.size=size) (hsz:0 < size)
  (a:Option Nat) (n c:Nat) (xs:List Value) (hs:A.eval s=sv a n c) (hown:SliceAt w e size a n c xs)
  (ad:Addr) (m cc:Nat) (news:List Value) (hx:A.eval x=M (some ad) m cc) (hl:news.length=m * size) (hnews:∀ j u,news[j]? =some u→w.cell? (ad.add j)=some u) (h1:∀ u∈news,u.oneCell'=true)
  (hm:0 < m) (hlen:n + m≤140737488355328) (hbytes:(n + m) * bytes≤140737488355328)
  (h:∀ g c' w',SliceAt w' e size (some g) (n + m) c' (xs ++ news)→Keeps a.toList w w'→(a=some g∨w.heap.size≤g)→K (A.put o.dst (M (some ⟨g,0,none⟩) (n + m) c')) w'):
  if Region.wanted o (yielded ops A.tmps)=true then Oper.wp P o A w K Q else E:=by
 have hw:Region.wanted o (yielded ops A.tmps)=true:=by simp [Region.wanted,hg]
 rw [if_pos hw];obtain ⟨g,c',w',hr,h2,h3,h4⟩:=run_append_sl (P:=P) w t o.type e i z size bytes ht hi hz hsize hby hzs hsz a n c xs hown ad m cc news hl hnews h1 hm hlen hbytes;unfold Oper.wp execOp;simp only [hop,resolve,invoke,builtin,Sem.run_bind,Sem.run_pure,Result.andThen_ok,List.map_toArray,List.map_cons,List.map_nil,hs,hx,hr];exact h g c' w' h2 h3 h4
theorem SliceAt.set {w:World} {e g n c:Nat} {xs:List Value} (h:SliceAt w e 1 (some g) n c xs) (i:Nat) (v:Value):SliceAt (w.setCell ⟨g,i,none⟩ v) e 1 (some g) n c (xs.set i v):=by
 obtain ⟨h1,cur,h2,h3,h4,h5,h6⟩:=h;refine ⟨by simpa using h1,_,heap_setCell_same w g i _ e v h2,h3,h4,by simpa using h5,?_⟩;subst h6;simp [List.take_set]
inductive Tree where
 | node (op:Int) (set:List (Int × Int)) (kids:List Tree) (mn mx mode n:Int) (neg:Bool)
inductive MRe where
 | node (op:Int) (sa:Option Addr) (sc:Nat) (set:List (Int × Int)) (ka:Option Addr) (kc:Nat) (kids:List MRe) (mn mx mode n:Int) (neg:Bool)
mutual
def MRe.tree:MRe→Tree
 | .node op _ _ set _ _ kids mn mx mode n neg=> .node op set (MRe.trees kids) mn mx mode n neg
def MRe.trees:List MRe→List Tree
 | []=> []
 | k::ks=> k.tree::MRe.trees ks
end
theorem MRe.trees_eq (l:List MRe):MRe.trees l=l.map MRe.tree:=by
 induction l with
 | nil=> rfl
 | cons k ks ih=> simp [MRe.trees,ih]
theorem MRe.trees_length (l:List MRe):(MRe.trees l).length=l.length:=by simp [MRe.trees_eq]
namespace Tree
def op:Tree→Int | .node op _ _ _ _ _ _ _=> op
def set:Tree→List (Int × Int) | .node _ set _ _ _ _ _ _=> set
def kids:Tree→List Tree | .node _ _ kids _ _ _ _ _=> kids
def mn:Tree→Int | .node _ _ _ mn _ _ _ _=> mn
def mx:Tree→Int | .node _ _ _ _ mx _ _ _=> mx
def mode:Tree→Int | .node _ _ _ _ _ mode _ _=> mode
def n:Tree→Int | .node _ _ _ _ _ _ n _=> n
def neg:Tree→Bool | .node _ _ _ _ _ _ _ neg=> neg
def nil:Tree:=.node 0 [] [] 0 0 0 0 false
mutual
def bulk:Tree→Nat
 | .node _ set kids _ _ _ _ _=> 1 + set.length + bulks kids
def bulks:List Tree→Nat
 | []=> 0
 | k::ks=> k.bulk + bulks ks
end
theorem bulks_mem {k:Tree} {l:List Tree} (h:k∈l):k.bulk≤bulks l:=by
 induction l with
 | nil=> simp at h
 | cons x xs ih=>
  rcases List.mem_cons.1 h with rfl | h
  ·simp [bulks]
  ·have:=ih h;simp only [bulks];omega
theorem bulk_pos (t:Tree):1≤t.bulk:=by cases t;simp only [bulk];omega
theorem length_le_bulks (l:List Tree):l.length≤bulks l:=by
 induction l with
 | nil=> simp [bulks]
 | cons x xs ih=> have:=bulk_pos x;simp only [List.length_cons,bulks];omega
theorem bulks_append (a b:List Tree):bulks (a ++ b)=bulks a + bulks b:=by
 induction a with
 | nil=> simp [bulks]
 | cons x xs ih=> simp only [List.cons_append,bulks,ih];omega
theorem bulks_take_drop (l:List Tree) (i:Nat):bulks l=bulks (l.take i) + bulks (l.drop i):=by
 rw [←bulks_append,List.take_append_drop]
theorem induct {P:Tree→Prop} (h:∀ op set kids mn mx mode n neg,(∀ k∈kids,P k)→P (.node op set kids mn mx mode n neg)):∀ t,P t:=by
 intro t
 induction hb:t.bulk using Nat.strongRecOn generalizing t with
 | _ b ih=>
  cases t with
  | node op set kids mn mx mode n neg=>
   refine h op set kids mn mx mode n neg fun k hk=> ih k.bulk ?_ k rfl;subst hb
   have:=bulks_mem hk
   simp only [bulk];omega
end Tree
namespace MRe
def row:MRe→List Value
 | .node op sa sc set ka kc kids mn mx mode n neg=> [H J op,M sa set.length sc,M ka kids.length kc,H J mn,H J mx,H J mode,H J n,F neg]
def val:MRe→Value
 | .node op sa sc set ka kc kids mn mx mode n neg=> .agg #[H J op,M sa set.length sc,M ka kids.length kc,H J mn,H J mx,H J mode,H J n,F neg]
theorem row_length (m:MRe):m.row.length=8:=by cases m;rfl
def op:MRe→Int | .node op _ _ _ _ _ _ _ _ _ _ _=> op
def set:MRe→List (Int × Int) | .node _ _ _ set _ _ _ _ _ _ _ _=> set
def kids:MRe→List MRe | .node _ _ _ _ _ _ kids _ _ _ _ _=> kids
def nil:MRe:=.node 0 none 0 [] none 0 [] 0 0 0 0 false
theorem row_one (m:MRe):∀ u∈m.row,u.oneCell'=true:=by
 cases m
 intro u hu;simp [row] at hu
 rcases hu with rfl | rfl | rfl | rfl | rfl | rfl | rfl | rfl <;> rfl
end MRe
structure SpansIn (w:World) (sa:Option Addr) (sc:Nat) (set:List (Int × Int)):Prop where
 le:set.length≤sc
 cap:sc≤maxLen
 nil_:sa=none→sc=0
 at_:0 < sc→∃ b off,sa=some ⟨b,off,none⟩∧b < w.heap.size∧∀ i (h:i < set.length),w.cell? ⟨b,off + i * 2,none⟩=some (H J set[i].1)∧w.cell? ⟨b,off + i * 2 + 1,none⟩=some (H J set[i].2)
structure NodesIn (w:World) (ka:Option Addr) (kc:Nat) (kids:List MRe):Prop where
 le:kids.length≤kc
 cap:kc≤maxLen
 nil_:ka=none→kc=0
 at_:0 < kc→∃ b off,ka=some ⟨b,off,none⟩∧b < w.heap.size∧∀ i (h:i < kids.length) j (hj:j < kids[i].row.length),w.cell? ⟨b,off + i * 8 + j,none⟩=some kids[i].row[j]
inductive MRe.OK (w:World):MRe→Prop
 | mk {op sa sc set ka kc kids mn mx mode n neg} (hs:SpansIn w sa sc set) (hk:NodesIn w ka kc kids) (hr:∀ k,k∈kids→MRe.OK w k):MRe.OK w (.node op sa sc set ka kc kids mn mx mode n neg)
theorem SpansIn.keep {w w':World} {sa:Option Addr} {sc:Nat} {set:List (Int × Int)} (h:SpansIn w sa sc set) (k:Keeps [] w w'):SpansIn w' sa sc set:=
 ⟨h.le,h.cap,h.nil_,fun h0=> by
  obtain ⟨b,off,h1,hb,h2⟩:=h.at_ h0;exact ⟨b,off,h1,Nat.lt_of_lt_of_le hb k.size,fun i hi=> ⟨k.cell (h2 i hi).1 (by simp),k.cell (h2 i hi).2 (by simp)⟩⟩⟩
theorem NodesIn.keep {w w':World} {ka:Option Addr} {kc:Nat} {kids:List MRe} (h:NodesIn w ka kc kids) (k:Keeps [] w w'):NodesIn w' ka kc kids:=
 ⟨h.le,h.cap,h.nil_,fun h0=> by
  obtain ⟨b,off,h1,hb,h2⟩:=h.at_ h0;exact ⟨b,off,h1,Nat.lt_of_lt_of_le hb k.size,fun i hi j hj=> k.cell (h2 i hi j hj) (by simp)⟩⟩
theorem MRe.OK.keep {w w':World} (k:Keeps [] w w') {m:MRe} (h:m.OK w):m.OK w':=by
 induction h with
 | mk hs hk _ ih=> exact .mk (hs.keep k) (hk.keep k) ih
theorem MRe.OK.spans {w:World} {op sa sc set ka kc kids mn mx mode n neg} (h:MRe.OK w (.node op sa sc set ka kc kids mn mx mode n neg)):SpansIn w sa sc set:=by cases h;assumption
theorem MRe.OK.nodes {w:World} {op sa sc set ka kc kids mn mx mode n neg} (h:MRe.OK w (.node op sa sc set ka kc kids mn mx mode n neg)):NodesIn w ka kc kids:=by cases h;assumption
theorem MRe.OK.kid {w:World} {op sa sc set ka kc kids mn mx mode n neg} (h:MRe.OK w (.node op sa sc set ka kc kids mn mx mode n neg)) {k:MRe} (hk:k∈kids):k.OK w:=by cases h with | mk _ _ hr=> exact hr k hk
structure KidsIn (w:World) (ka:Option Addr) (kc:Nat) (kids:List MRe):Prop where
 nodes:NodesIn w ka kc kids
 all:∀ k∈kids,k.OK w
theorem KidsIn.keep {w w':World} {ka:Option Addr} {kc:Nat} {kids:List MRe} (h:KidsIn w ka kc kids) (k:Keeps [] w w'):KidsIn w' ka kc kids:=⟨h.nodes.keep k,fun x hx=> (h.all x hx).keep k⟩
theorem MRe.OK.kids {w:World} {op sa sc set ka kc kids mn mx mode n neg} (h:MRe.OK w (.node op sa sc set ka kc kids mn mx mode n neg)):KidsIn w ka kc kids:=⟨h.nodes,fun _ hk=> h.kid hk⟩
theorem MRe.OK.of {w:World} {op sa sc set ka kc kids mn mx mode n neg} (hs:SpansIn w sa sc set) (hk:KidsIn w ka kc kids):MRe.OK w (.node op sa sc set ka kc kids mn mx mode n neg):=.mk hs hk.nodes hk.all
theorem SpansIn.nil (w:World):SpansIn w none 0 []:=⟨by simp,by unfold maxLen;omega,fun _=> rfl,fun h=> by omega⟩
theorem NodesIn.nil (w:World):NodesIn w none 0 []:=⟨by simp,by unfold maxLen;omega,fun _=> rfl,fun h=> by omega⟩
theorem KidsIn.nil (w:World):KidsIn w none 0 []:=⟨NodesIn.nil w,by simp⟩
theorem MRe.OK.nil (w:World):MRe.nil.OK w:=.of (SpansIn.nil w) (KidsIn.nil w)
structure NodeAt (w:World) (b o:Nat) (op:Int) (sa:Option Addr) (ns sc:Nat) (ka:Option Addr) (nk kc:Nat) (mn mx mode n:Int) (neg:Bool):Prop where
 c0:w.cell? ⟨b,o,none⟩=some (H J op)
 c1:w.cell? ⟨b,o + 1,none⟩=some (M sa ns sc)
 c2:w.cell? ⟨b,o + 2,none⟩=some (M ka nk kc)
 c3:w.cell? ⟨b,o + 3,none⟩=some (H J mn)
 c4:w.cell? ⟨b,o + 4,none⟩=some (H J mx)
 c5:w.cell? ⟨b,o + 5,none⟩=some (H J mode)
 c6:w.cell? ⟨b,o + 6,none⟩=some (H J n)
 c7:w.cell? ⟨b,o + 7,none⟩=some (F neg)
def At8 (w:World) (b o:Nat) (m:MRe):Prop:=∀ j (hj:j < m.row.length),w.cell? ⟨b,o + j,none⟩=some m.row[j]
theorem At8.node {w:World} {b o:Nat} {op sa sc set ka kc kids mn mx mode n neg} (h:At8 w b o (.node op sa sc set ka kc kids mn mx mode n neg)):NodeAt w b o op sa set.length sc ka kids.length kc mn mx mode n neg:=
 ⟨h 0 (by rw [MRe.row_length];omega),h 1 (by rw [MRe.row_length];omega),h 2 (by rw [MRe.row_length];omega),h 3 (by rw [MRe.row_length];omega),h 4 (by rw [MRe.row_length];omega),h 5 (by rw [MRe.row_length];omega),h 6 (by rw [MRe.row_length];omega),h 7 (by rw [MRe.row_length];omega)⟩
theorem At8.keep {w w':World} {b o:Nat} {m:MRe} (h:At8 w b o m) (k:Keeps [] w w'):At8 w' b o m:=fun j hj=> k.cell (h j hj) (by simp)
theorem NodesIn.kid {w:World} {ka:Option Addr} {kc:Nat} {kids:List MRe} (h:NodesIn w ka kc kids) (h0:0 < kids.length):∃ b off,ka=some ⟨b,off,none⟩∧b < w.heap.size∧∀ i (h:i < kids.length),At8 w b (off + i * 8) kids[i]:=by
 obtain ⟨b,off,h1,hb,h2⟩:=h.at_ (by have:=h.le;omega);exact ⟨b,off,h1,hb,h2⟩
theorem At8.of_block {w:World} {b:Nat} {cs:Array Value} {T:Nat} {fz:Nat × Nat} {m:MRe} (h:w.heap[b]? =some (.cells cs T fz)) (hc:cs=m.row.toArray):At8 w b 0 m:=by
 subst hc;intro j hj;simp [World.cell?,h,hj]
def flatK (kids:List MRe):List Value:=kids.flatMap MRe.row
theorem flatK_length (kids:List MRe):(flatK kids).length=kids.length * 8:=by
 induction kids with
 | nil=> rfl
 | cons k ks ih=> simp only [flatK,List.flatMap_cons,List.length_append,MRe.row_length,List.length_cons] at ih ⊢;omega
theorem flatK_append (a b:List MRe):flatK (a ++ b)=flatK a ++ flatK b:=by simp [flatK]
theorem flatK_get (kids:List MRe) (i:Nat) (hi:i < kids.length) (j:Nat) (hj:j < kids[i].row.length):(flatK kids)[i * 8 + j]? =some kids[i].row[j]:=by
 induction kids generalizing i with
 | nil=> simp at hi
 | cons k ks ih=>
  have hk:=MRe.row_length k
  cases i with
  | zero=>
   have hj':j < k.row.length:=hj;simp only [flatK,List.flatMap_cons,Nat.zero_mul,Nat.zero_add,List.getElem_cons_zero];rw [List.getElem?_append_left hj',List.getElem?_eq_getElem hj']
  | succ i=>
   have:=ih i (by simpa using hi) hj
   simp only [flatK,List.flatMap_cons,List.getElem_cons_succ] at this ⊢;rw [List.getElem?_append_right (by omega),hk,show (i + 1) * 8 + j - 8=i * 8 + j by omega];exact this
theorem flatK_one (kids:List MRe):∀ u∈flatK kids,u.oneCell'=true:=by
 intro u hu;obtain ⟨k,_,h⟩:=List.mem_flatMap.1 hu;exact k.row_one u h
def flatP (set:List (Int × Int)):List Value:=set.flatMap fun s=> [H J s.1,H J s.2]
theorem flatP_length (set:List (Int × Int)):(flatP set).length=set.length * 2:=by
 induction set with
 | nil=> rfl
 | cons k ks ih=> simp only [flatP,List.flatMap_cons,List.length_append,List.length_cons,List.length_nil] at ih ⊢;omega
theorem flatP_append (a b:List (Int × Int)):flatP (a ++ b)=flatP a ++ flatP b:=by simp [flatP]
theorem flatP_get (set:List (Int × Int)) (i:Nat) (hi:i < set.length):(flatP set)[i * 2]? =some (H J set[i].1)∧(flatP set)[i * 2 + 1]? =some (H J set[i].2):=by
 induction set generalizing i with
 | nil=> simp at hi
 | cons k ks ih=>
  cases i with
  | zero=> simp [flatP]
  | succ i=>
   have:=ih i (by simpa using hi)
   have e:flatP (k::ks)=H J k.1::H J k.2::flatP ks:=rfl;rw [e,show (i + 1) * 2=i * 2 + 2 by omega]
   simpa using this
theorem flatP_one (set:List (Int × Int)):∀ u∈flatP set,u.oneCell'=true:=by
 intro u hu;obtain ⟨k,_,h⟩:=List.mem_flatMap.1 hu;simp at h
 rcases h with rfl | rfl <;> rfl
theorem NodesIn.of_sl {w:World} {e:Nat} {a:Option Nat} {n c:Nat} {kids:List MRe} (h:SliceAt w e 8 a n c (flatK kids)):NodesIn w (a.map fun g=> ⟨g,0,none⟩) c kids:=by
 have hl:kids.length=n:=by have:=h.1;rw [flatK_length] at this;omega
 cases a with
 | none=> obtain ⟨_,h2,h3⟩:=h;subst h3;exact ⟨by omega,by unfold maxLen;omega,fun _=> rfl,fun h0=> by omega⟩
 | some g=>
  have hc:=h.cell;have hb:=h.lt;obtain ⟨_,cur,h2,h3,h4,_⟩:=h;refine ⟨by omega,h4,by simp,fun _=> ⟨g,0,rfl,hb,fun i hi j hj=> ?_⟩⟩;have h5:=flatK_get kids i hi j hj;obtain ⟨h6,h7⟩:=List.getElem?_eq_some_iff.1 h5;rw [Nat.zero_add,hc _ h6,h7]
theorem SpansIn.of_sl {w:World} {e:Nat} {a:Option Nat} {n c:Nat} {set:List (Int × Int)} (h:SliceAt w e 2 a n c (flatP set)):SpansIn w (a.map fun g=> ⟨g,0,none⟩) c set:=by
 have hl:set.length=n:=by have:=h.1;rw [flatP_length] at this;omega
 cases a with
 | none=> obtain ⟨_,h2,h3⟩:=h;subst h3;exact ⟨by omega,by unfold maxLen;omega,fun _=> rfl,fun h0=> by omega⟩
 | some g=>
  have hc:=h.cell;have hb:=h.lt;obtain ⟨_,cur,h2,h3,h4,_⟩:=h;refine ⟨by omega,h4,by simp,fun _=> ⟨g,0,rfl,hb,fun i hi=> ?_⟩⟩;obtain ⟨h5,h6⟩:=flatP_get set i hi;obtain ⟨h7,h8⟩:=List.getElem?_eq_some_iff.1 h5;obtain ⟨h9,h10⟩:=List.getElem?_eq_some_iff.1 h6;rw [Nat.zero_add,hc _ h7,h8,hc _ h9,h10];exact ⟨rfl,rfl⟩
theorem NodesIn.of_block {w:World} {b:Nat} {cs:Array Value} {T:Nat} {fz:Nat × Nat} {kids:List MRe} (h:w.heap[b]? =some (.cells cs T fz)) (hc:cs.toList=flatK kids) (hm:kids.length≤maxLen):NodesIn w (some ⟨b,0,none⟩) kids.length kids:=by
 refine ⟨Nat.le_refl _,hm,by simp,fun _=> ⟨b,0,rfl,lt_of_block h,fun i hi j hj=> ?_⟩⟩;have h5:=flatK_get kids i hi j hj;rw [Nat.zero_add];simp only [World.cell?,h];rw [←hc] at h5
 simpa using h5
theorem SpansIn.of_block {w:World} {b:Nat} {cs:Array Value} {T:Nat} {fz:Nat × Nat} {set:List (Int × Int)} (h:w.heap[b]? =some (.cells cs T fz)) (hc:cs.toList=flatP set) (hm:set.length≤maxLen):SpansIn w (some ⟨b,0,none⟩) set.length set:=by
 refine ⟨Nat.le_refl _,hm,by simp,fun _=> ⟨b,0,rfl,lt_of_block h,fun i hi=> ?_⟩⟩;obtain ⟨h5,h6⟩:=flatP_get set i hi;rw [Nat.zero_add];simp only [World.cell?,h];rw [←hc] at h5 h6;exact ⟨by simpa using h5,by simpa using h6⟩
theorem NodesIn.flat {w:World} {ka:Option Addr} {kc:Nat} {kids:List MRe} (h:NodesIn w ka kc kids) (h0:0 < kids.length):∃ b off,ka=some ⟨b,off,none⟩∧b < w.heap.size∧∀ j u,(flatK kids)[j]? =some u→w.cell? ⟨b,off + j,none⟩=some u:=by
 obtain ⟨b,off,h1,hb,h2⟩:=h.at_ (by have:=h.le;omega);refine ⟨b,off,h1,hb,fun j u hu=> ?_⟩;have hj:j < (flatK kids).length:=(List.getElem?_eq_some_iff.1 hu).1;rw [flatK_length] at hj;have hi:j / 8 < kids.length:=by omega
 have hr:j % 8 < kids[j / 8].row.length:=by rw [MRe.row_length];omega
 have h3:=h2 (j / 8) hi (j % 8) hr;have h4:=flatK_get kids (j / 8) hi (j % 8) hr;rw [show j / 8 * 8 + j % 8=j by omega,hu] at h4;rw [show off + j / 8 * 8 + j % 8=off + j by omega] at h3;rw [h3,h4]
theorem SpansIn.flat {w:World} {ka:Option Addr} {kc:Nat} {set:List (Int × Int)} (h:SpansIn w ka kc set) (h0:0 < set.length):∃ b off,ka=some ⟨b,off,none⟩∧b < w.heap.size∧∀ j u,(flatP set)[j]? =some u→w.cell? ⟨b,off + j,none⟩=some u:=by
 obtain ⟨b,off,h1,hb,h2⟩:=h.at_ (by have:=h.le;omega);refine ⟨b,off,h1,hb,fun j u hu=> ?_⟩;have hj:j < (flatP set).length:=(List.getElem?_eq_some_iff.1 hu).1;rw [flatP_length] at hj;have hi:j / 2 < set.length:=by omega
 obtain ⟨h3,h4⟩:=h2 (j / 2) hi;obtain ⟨h5,h6⟩:=flatP_get set (j / 2) hi
 rcases (show j=j / 2 * 2∨j=j / 2 * 2 + 1 by omega) with e | e
 ·rw [e,h5] at hu;cases hu;rw [←h3];congr 2;omega
 ·rw [e,h6] at hu;cases hu;rw [←h4];congr 2;omega
theorem add_none (b o j:Nat):(⟨b,o,none⟩:Addr).add j=⟨b,o + j,none⟩:=by unfold Addr.add;split <;> simp_all
theorem cell_new (w:World) (cs:Array Value) (T i:Nat):(w.alloc (.cells cs T)).cell? ⟨w.heap.size,i,none⟩=cs[i]?:=by
 have h:=heap_alloc_new w (.cells cs T);unfold World.cell?;rw [h]
 rfl
theorem At8.box {w:World} {cs:Array Value} {T:Nat} {m:MRe} (h:cs.toList=m.row):At8 (w.alloc (.cells cs T)) w.heap.size 0 m:=
 At8.of_block (heap_alloc_new w _) (by rw [←h])
theorem Keeps.a1 (w:World) (a:Obj):Keeps [] w (w.alloc a):=(Keeps.refl [] w).alloc a
theorem Keeps.a2 (w:World) (a b:Obj):Keeps [] w ((w.alloc a).alloc b):=(Keeps.a1 w a).alloc b
theorem Keeps.a3 (w:World) (a b c:Obj):Keeps [] w (((w.alloc a).alloc b).alloc c):=(Keeps.a2 w a b).alloc c
theorem Keeps.a4 (w:World) (a b c d:Obj):Keeps [] w ((((w.alloc a).alloc b).alloc c).alloc d):=(Keeps.a3 w a b c).alloc d
theorem NodesIn.drop {w:World} {b off kc:Nat} {kids:List MRe} (h:NodesIn w (some ⟨b,off,none⟩) kc kids) (i:Nat) (hi:i≤kids.length):NodesIn w (if kc=i then some ⟨b,off,none⟩ else some ⟨b,off + i * 8,none⟩) (kc - i) (kids.drop i):=by
 have hle:=h.le;have hcap:=h.cap;refine ⟨by rw [List.length_drop];omega,by omega,by split <;> simp,fun h0=> ?_⟩;rw [if_neg (by omega)];obtain ⟨b',off',h1,hb,h2⟩:=h.at_ (by omega)
 cases h1
 refine ⟨b,off + i * 8,rfl,hb,fun k hk j hj=> ?_⟩;have hk':i + k < kids.length:=by rw [List.length_drop] at hk;omega
 have:=h2 (i + k) hk' j (by rw [MRe.row_length] at hj ⊢;exact hj)
 rw [show off + i * 8 + k * 8 + j=off + (i + k) * 8 + j by omega,this]
 simp
theorem NodesIn.take {w:World} {ka:Option Addr} {kc:Nat} {kids:List MRe} (h:NodesIn w ka kc kids) (i:Nat):NodesIn w ka kc (kids.take i):=by
 have hle:=h.le;refine ⟨by rw [List.length_take];omega,h.cap,h.nil_,fun h0=> ?_⟩;obtain ⟨b,off,h1,hb,h2⟩:=h.at_ h0;refine ⟨b,off,h1,hb,fun k hk j hj=> ?_⟩;have hk':k < kids.length:=by rw [List.length_take] at hk;omega
 have:=h2 k hk' j (by rw [MRe.row_length] at hj ⊢;exact hj)
 rw [this]
 simp
end Go.Proofs.YtjnlkjlbejelgaaGreat
