/- Part of the proof. No condition: every lemma says its own. -/
import Derived.WalkKit
import Derived.WalkSpells
import Derived.WalkLawsBesides
import Derived.Lib.Hide
import Derived.Laws.CopyOwn
import Derived.Laws.MakeOwn
import Derived.Deep.QuietTactic
import Derived.Laws.AppendOwn
import Derived.Deep.RegionLawGrows
namespace Go.Proofs.YtjnlkjlbejelgaaGreat
open Go.RowKit
open Go.Value renaming int→H,slice→M,bool→F
open Go.IntKind renaming i64→J
set_option maxRecDepth 100000
set_option maxHeartbeats 16000000
abbrev bf {Eu Mp:Type} (op:Int) (sa:Option Addr) (set:List Eu) (sc:Nat) (ka:Option Addr) (kids:List Mp) (kc:Nat) (mn mx mode n:Int) (neg:Bool):Obj:=.cells #[H J op,M sa set.length sc,M ka kids.length kc,H J mn,H J mx,H J mode,H J n,F neg] 26 (0,0)
abbrev cO:Obj:=.cells #[H J 0,M none 0 0,M none 0 0,H J 0,H J 0,H J 0,H J 0,F false] 26 (0,0)
abbrev hN:Obj:=.cells #[H J 0,M none 0 0,M none 0 0,H J 0,H J 0,H J 0,H J 0,F false,H J 0,F false] 28 (0,0)
abbrev iK {Eu Mp:Type} (w:World) (b:Nat) (op:Int) (sa:Option Addr) (set:List Eu) (sc:Nat) (ka:Option Addr) (kids:List Mp) (kc:Nat) (mn mx mode n:Int) (neg:Bool):Prop:=w.cell? ⟨b,0,none⟩=some (H J op)∧w.cell? ⟨b,1,none⟩=some (M sa set.length sc)∧w.cell? ⟨b,2,none⟩=some (M ka kids.length kc)∧w.cell? ⟨b,3,none⟩=some (H J mn)∧w.cell? ⟨b,4,none⟩=some (H J mx)∧w.cell? ⟨b,5,none⟩=some (H J mode)∧w.cell? ⟨b,6,none⟩=some (H J n)∧w.cell? ⟨b,7,none⟩=some (F neg)
structure sF (p:Prop):Prop where
 o:p
theorem C {p:Prop} (h:p):sF p:=⟨h⟩
theorem Ga {a b c d:Prop} (h:a∧b∧c∧d):sF a∧sF b∧sF c∧sF d:=⟨⟨h.1⟩,⟨h.2.1⟩,⟨h.2.2.1⟩,⟨h.2.2.2⟩⟩
structure I (S:List Nat) (w w':World):Prop where
 os:w'.os=w.os
 tape:w'.tape=w.tape
 output:w'.output=w.output
 size:w.heap.size≤w'.heap.size
 block:∀ k,k < w.heap.size→k ∉ S→w'.heap[k]? =w.heap[k]?
theorem I.refl (S:List Nat) (w:World):I S w w:=⟨rfl,rfl,rfl,Nat.le_refl _,fun _ _ _=> rfl⟩
theorem I.trans {S:List Nat} {a b c:World} (h:I S a b) (k:I S b c):I S a c:=
 ⟨k.os.trans h.os,k.tape.trans h.tape,k.output.trans h.output,Nat.le_trans h.size k.size,fun i hi hs=> (k.block i (Nat.lt_of_lt_of_le hi h.size) hs).trans (h.block i hi hs)⟩
theorem I.mono {S S':List Nat} {w w':World} (h:I S w w') (hS:∀ k,k∈S→k∈S'∨w.heap.size≤k):I S' w w':=
 ⟨h.os,h.tape,h.output,h.size,fun k hk hs=> h.block k hk (fun hm=> by rcases hS k hm with h1 | h1;exact hs h1;omega)⟩
theorem I.cn {S S':List Nat} {a b c:World} (h:I S a b) (k:I S' b c) (hS:∀ x,x∈S'→x∈S∨a.heap.size≤x):I S a c:=
 ⟨k.os.trans h.os,k.tape.trans h.tape,k.output.trans h.output,Nat.le_trans h.size k.size,fun i hi hs=>
  (k.block i (Nat.lt_of_lt_of_le hi h.size) (fun hm=> by rcases hS i hm with h1 | h1;exact hs h1;omega)).trans (h.block i hi hs)⟩
theorem I.drew {S:List Nat} {a w:World} (h:I S a w):I S a w.drew:=⟨h.os,h.tape,h.output,h.size,h.block⟩
theorem I.drewN {S:List Nat} {a w:World} (h:I S a w) (n:Nat):I S a (w.drewN n):=⟨h.os,h.tape,h.output,h.size,h.block⟩
theorem I.alloc {S:List Nat} {a w:World} (h:I S a w) (o:Obj):I S a (w.alloc o):=
 h.trans ⟨rfl,rfl,rfl,by simp,fun k hk _=> Below.heap_alloc _ _ _ (by omega)⟩
theorem I.setCell {S:List Nat} {a w:World} (h:I S a w) {p:Addr} (hp:p.block∈S∨a.heap.size≤p.block) (u:Value):I S a (w.setCell p u):=
 ⟨h.os,h.tape,h.output,by have:=h.size;simp [World.setCell];exact this,fun k hk hs=> by
  rw [Below.heap_setCell _ _ _ _ (fun e=> by rcases hp with h1 | h1;exact hs (e ▸ h1);omega)];exact h.block k hk hs⟩
theorem I.setRow {S:List Nat} {a w:World} (h:I S a w) {g:Nat} (hp:g∈S∨a.heap.size≤g) (cs:Array Value):I S a (w.setRow g cs):=
 ⟨h.os,h.tape,h.output,by have:=h.size;simp;exact this,fun k hk hs=> by
  rw [setRow_other _ _ _ _ (fun e=> by rcases hp with h1 | h1;exact hs (e ▸ h1);omega)];exact h.block k hk hs⟩
theorem I.below {U:Nat} {w w':World} (h:I [] w w') (gA:U≤w.heap.size):Below U w w':=⟨h.os,h.tape,h.output,h.size,fun k hk=> h.block k (by omega) (by simp)⟩
theorem I.kY {w w':World} (h:Below w.heap.size w w'):I [] w w':=⟨h.os,h.tape,h.output,h.size,fun k hk _=> h.block k hk⟩
theorem I.heap {S:List Nat} {w w':World} (h:I S w w') {b:Nat} {o:Obj} (ad:w.heap[b]? =some o) (hs:b ∉ S):w'.heap[b]? =some o:=(h.block b (lt_of_block ad) hs).trans ad
theorem I.cell {S:List Nat} {w w':World} (h:I S w w') {a:Addr} {v:Value} (hc:w.cell? a=some v) (hs:a.block ∉ S):w'.cell? a=some v:=
 (World.cell?_of_block (h.block a.block (World.block_lt_of_cell? w a hc) hs)).trans hc
theorem I.c {S:List Nat} {w w':World} {p:Addr} {v:Value} (k:I S w w') (h:w.cell? p=some v) (hs:p.block ∉ S:=by simp):w'.cell? p=some v:=k.cell h hs
theorem I.h {S:List Nat} {w w':World} {b:Nat} {o:Obj} (k:I S w w') (h:w.heap[b]? =some o) (hs:b ∉ S:=by simp):w'.heap[b]? =some o:=k.heap h hs
theorem I.au {S:List Nat} {w w':World} {fQ p1 p2 jh ji lq lr lu:Addr} {v0 v1 v2 v3 v4 v5 v6 v7:Value} (k:I S w w') (h0:w.cell? fQ=some v0) (h1:w.cell? p1=some v1) (h2:w.cell? p2=some v2) (h3:w.cell? jh=some v3) (h4:w.cell? ji=some v4) (h5:w.cell? lq=some v5) (eW:w.cell? lr=some v6) (h7:w.cell? lu=some v7) (hs:fQ.block ∉ S∧p1.block ∉ S∧p2.block ∉ S∧jh.block ∉ S∧ji.block ∉ S∧lq.block ∉ S∧lr.block ∉ S∧lu.block ∉ S:=by simp):w'.cell? fQ=some v0∧w'.cell? p1=some v1∧w'.cell? p2=some v2∧w'.cell? jh=some v3∧w'.cell? ji=some v4∧w'.cell? lq=some v5∧w'.cell? lr=some v6∧w'.cell? lu=some v7:=by
 obtain ⟨c0,cT,s2,lR,kM,kh,k7,lJ⟩:=hs;exact ⟨k.cell h0 c0,k.cell h1 cT,k.cell h2 s2,k.cell h3 lR,k.cell h4 kM,k.cell h5 kh,k.cell eW k7,k.cell h7 lJ⟩
def qZ (kb:Nat) (w:World) (b:Nat) (bR:List Int):Prop:=w.heap[b]? =some (.cells (bR.map (H J)).toArray kb (0,0))
theorem qZ.lt {kb:Nat} {w:World} {b:Nat} {bR:List Int} (h:qZ kb w b bR):b < w.heap.size:=lt_of_block h
theorem qZ.fz {kb:Nat} {w:World} {b:Nat} {bR:List Int} (h:qZ kb w b bR) (i:Nat):w.frozen? ⟨b,i,none⟩=false:=by unfold qZ at h;simp [World.frozen?,h]
theorem qZ.cell {kb:Nat} {w:World} {b:Nat} {bR:List Int} (h:qZ kb w b bR) (i:Nat) (hi:i < bR.length):w.cell? ⟨b,i,none⟩=some (H J bR[i]):=by unfold qZ at h;simp [World.cell?,h,hi]
theorem qZ.drewN {kb:Nat} {w:World} {b:Nat} {bR:List Int} (h:qZ kb w b bR) (n:Nat):qZ kb (w.drewN n) b bR:=h
theorem qZ.ah {kb:Nat} {S:List Nat} {w w':World} {b:Nat} {bR:List Int} (h:qZ kb w b bR) (k:I S w w') (hs:b ∉ S):qZ kb w' b bR:=k.heap h hs
theorem qZ.set {kb:Nat} {w:World} {b:Nat} {bR:List Int} (h:qZ kb w b bR) (i:Nat) (x:Int):qZ kb (w.setCell ⟨b,i,none⟩ (H J x)) b (bR.set i x):=by
 have e:=heap_setCell_same w b i _ kb (H J x) h;unfold qZ;rw [e]
 congr 2
 apply Array.ext'
 simp [List.map_set]
theorem qZ.alloc (kb:Nat) (w:World) (bR:List Int):qZ kb (w.alloc (.cells (bR.map (H J)).toArray kb)) w.heap.size bR:=heap_alloc_new w _
theorem alz (v:Value) (n:Nat):madeCells #[v] n=(List.replicate n v).toArray:=by
 apply Array.ext
 ·simp [size_madeCells]
 ·intro j h1 h2;simp [madeCells,Nat.mod_one]
def de (a:Option Nat) (n c:Nat):Value:=M (a.map fun g=> ⟨g,0,none⟩) n c
def cr (w:World) (e size:Nat) (a:Option Nat) (n c:Nat) (xs:List Value):Prop:=
 xs.length=n * size∧
 match a with
 | none=> n=0∧c=0
 | some g=> ∃ cur:Array Value,w.heap[g]? =some (.cells cur e (0,0))∧n≤c∧c≤maxLen∧cur.size=c * size∧cur.toList.take (n * size)=xs
theorem cr.nil (w:World) (e size:Nat):cr w e size none 0 0 []:=⟨by simp,rfl,rfl⟩
theorem cr.acF {w:World} {e size:Nat} {a:Option Nat} {n c:Nat} {xs:List Value} (h:cr w e size a n c xs):w.ownsRow 0 e size (de a n c) n xs:=by
 refine ⟨h.1,?_⟩
 cases a with
 | none=> obtain ⟨h1,rfl,rfl⟩:=h;exact .inl ⟨rfl,rfl⟩
 | some g=> obtain ⟨h1,cur,h2,h3,h4,h5,eW⟩:=h;exact .inr ⟨g,c,cur,rfl,Nat.zero_le _,h2,h3,h4,h5,eW⟩
theorem cr.lt {w:World} {e size:Nat} {g:Nat} {n c:Nat} {xs:List Value} (h:cr w e size (some g) n c xs):g < w.heap.size:=by
 obtain ⟨_,cur,h2,_⟩:=h;exact lt_of_block h2
theorem cr.ah {S:List Nat} {w w':World} {e size:Nat} {a:Option Nat} {n c:Nat} {xs:List Value} (h:cr w e size a n c xs) (k:I S w w') (hs:∀ g,a=some g→g ∉ S):cr w' e size a n c xs:=by
 refine ⟨h.1,?_⟩
 cases a with
 | none=> exact h.2
 | some g=> obtain ⟨h1,cur,h2,h3⟩:=h;exact ⟨cur,k.heap h2 (hs g rfl),h3⟩
theorem cr.drewN {w:World} {e size:Nat} {a:Option Nat} {n c:Nat} {xs:List Value} (h:cr w e size a n c xs) (k:Nat):cr (w.drewN k) e size a n c xs:=h.ah ((I.refl [] w).drewN k) (by simp)
theorem cr.alloc {w:World} {e size:Nat} {a:Option Nat} {n c:Nat} {xs:List Value} (h:cr w e size a n c xs) (o:Obj):cr (w.alloc o) e size a n c xs:=h.ah ((I.refl [] w).alloc o) (by simp)
theorem cr.cell {w:World} {e size:Nat} {g:Nat} {n c:Nat} {xs:List Value} (h:cr w e size (some g) n c xs) (i:Nat) (hi:i < xs.length):w.cell? ⟨g,i,none⟩=some xs[i]:=by
 obtain ⟨h1,cur,h2,h3,h4,h5,eW⟩:=h;subst eW;simp at hi;simp [World.cell?,h2]
theorem cr.fz {w:World} {e size:Nat} {g:Nat} {n c:Nat} {xs:List Value} (h:cr w e size (some g) n c xs) (i:Nat):w.frozen? ⟨g,i,none⟩=false:=by
 obtain ⟨h1,cur,h2,_⟩:=h;simp [World.frozen?,h2]
theorem cr.y6 {w:World} {e size:Nat} {g:Nat} {cur:Array Value} {c:Nat} (h:w.heap[g]? =some (.cells cur e (0,0))) (hc:cur.size=c * size) (hm:c≤maxLen):cr w e size (some g) c c cur.toList:=
 ⟨by simp [hc],cur,h,Nat.le_refl _,hm,hc,by rw [List.take_of_length_le (by simp [hc])]⟩
theorem wa (w:World) (xs:List Value) (t:Nat):∀ j u,xs[j]? =some u→(w.alloc (.cells xs.toArray t)).cell? ((⟨w.heap.size,0,none⟩:Addr).add j)=some u:=by
 intro j u c8;have SH:(⟨w.heap.size,0,none⟩:Addr).add j=⟨w.heap.size,j,none⟩:=by unfold Addr.add;split <;> simp_all
 rw [SH,cell_of_row _ _ _ _ _ _ (heap_alloc_new w _)]
 simpa using c8
theorem x4 (w:World) (xs:List Value) (t:Nat) (m:Nat) (hm:m=w.heap.size):∀ j u,xs[j]? =some u→(w.alloc (.cells xs.toArray t)).cell? ((⟨m,0,none⟩:Addr).add j)=some u:=by
 subst hm;exact wa w xs t
theorem Ph {P:Program} (w:World) (t lT e:TypeId) (i:TypeInfo) (z:Value) (size bytes:Nat) (ht:P.underlying t=some (.slice e)) (hi:P.info? e=some i) (aW:i.zero=some z)
  (vb:i.size=size) (ps:i.bytes=bytes) (tz:z.cells.size=size) (cZ:0 < size)
  (a:Option Nat) (n c:Nat) (xs:List Value) (hown:cr w e size a n c xs)
  (aX:Addr) (m eG:Nat) (iq:List Value) (hl:iq.length=m * size) (hnews:∀ j u,iq[j]? =some u→w.cell? (aX.add j)=some u) (h1:∀ u∈iq,u.oneCell'=true)
  (hm:0 < m) (jC:n + m≤140737488355328) (tW:(n + m) * bytes≤140737488355328):
  ∃ g c' w',(Builtin.append_ #[t,t] lT #[de a n c,M (some aX) m eG]).run P w=.ok (M (some ⟨g,0,none⟩) (n + m) c') w'∧cr w' e size (some g) (n + m) c' (xs ++ iq)∧I a.toList w w'∧(a=some g∨w.heap.size≤g):=by
 subst vb;subst ps;have ajm:n + m≤maxLen:=by unfold maxLen;omega
 have Cw:(xs ++ iq).length=(n + m) * i.size:=by rw [List.length_append,hown.1,hl,Nat.add_mul]
 have X3:∀ (Gp:Nat),Gp < n + m→
   cr (w.drew.alloc (.cells (xs.toArray ++ iq.toArray ++ Builtin.zeroCells z.cells (grownCap w (n + m) Gp e - (n + m))) e)) e i.size (some w.heap.size) (n + m) (grownCap w (n + m) Gp e) (xs ++ iq):=by
  intro Gp ds;have Bk:=grownCap_ge w (n + m) Gp e;have n5:grownCap w (n + m) Gp e≤maxLen:=grownCap_le_maxLen w (n + m) Gp e ajm;refine ⟨Cw,_,heap_alloc_new w.drew _,Bk,n5,?_,?_⟩
  ·simp only [Array.size_append,List.size_toArray,size_zeroCells,tz,hown.1,hl,←Nat.add_mul]
   congr 1
   omega
  ·simp only [Array.toList_append,List.append_assoc];rw [←List.append_assoc,←Cw];exact List.take_left
 have hk:∀ o,I a.toList w (w.drew.alloc o):=fun o=> ((I.refl _ w).drew).alloc o
 cases a with
 | none=>
  obtain ⟨hx,rfl,rfl⟩:=hown;have hx:xs=[]:=List.eq_nil_of_length_eq_zero (by simpa using hx);subst hx;have aO:=run_append_nil (P:=P) w t lT e i z ht hi aW aX m eG iq hl hnews (by omega) (by omega) (by have ad:=tW;simp only [Nat.zero_add] at ad;omega);have Zr:=X3 0 (by omega);simp only [Nat.zero_add,List.nil_append,Array.empty_append] at Zr ⊢;exact ⟨_,_,_,aO,Zr,hk _,.inr (Nat.le_refl _)⟩
 | some g=>
  obtain ⟨hx,cur,hg,DV,n5,pt,LB⟩:=hown
  by_cases hroom:n + m≤c
  ·have SU:n * i.size + iq.length≤cur.size:=by rw [hl,pt,←Nat.add_mul];exact Nat.mul_le_mul_right _ hroom
   have aO:=run_append_room (P:=P) w t lT e i ht hi g n c cur hg aX m eG iq hl hnews h1 hroom SU;refine ⟨_,_,_,aO,⟨Cw,_,setRow_heap w g cur _ e _ hg,hroom,n5,?_,?_⟩,(I.refl _ w).setRow (by simp) _,.inl rfl⟩
   ·simp only [List.size_toArray,List.length_append,List.length_take,List.length_drop,Array.length_toList];omega
   ·rw [LB,←Cw];exact List.take_left
  ·have hown:cr w e i.size (some g) n c xs:=⟨hx,cur,hg,DV,n5,pt,LB⟩;have holds:∀ j u,xs[j]? =some u→w.cell? ((⟨g,0,none⟩:Addr).add j)=some u:=hown.acF.cells (g:=g) rfl;have aO:=run_append_grow (P:=P) w t lT e i z ht hi aW ⟨g,0,none⟩ n c xs hx holds aX m eG iq hl hnews (by omega) (by omega) (growslice_fits (by omega) tW);exact ⟨_,_,_,aO,X3 c (by omega),hk _,.inr (Nat.le_refl _)⟩
theorem yb {P:Program} {w:World} {s7:Array Oper} {rest:List Oper} {o:Oper} {b7:Act} {fv:Exit→Act→World→Prop} (S0:o.guard=none) (s x:Operand) (t:TypeId)
  (ds:o.op=.call {callee:=.builtin .append,args:=#[s,x],argTypes:=#[t,t]})
  (e:TypeId) (i:TypeInfo) (z:Value) (size bytes:Nat) (ht:P.underlying t=some (.slice e)) (hi:P.info? e=some i) (aW:i.zero=some z)
  (vb:i.size=size) (ps:i.bytes=bytes) (tz:z.cells.size=size) (cZ:0 < size)
  (a:Option Nat) (n c:Nat) (xs:List Value) (hs:b7.eval s=de a n c) (hown:cr w e size a n c xs)
  (aX:Addr) (m eG:Nat) (iq:List Value) (hx:b7.eval x=M (some aX) m eG) (hl:iq.length=m * size) (hnews:∀ j u,iq[j]? =some u→w.cell? (aX.add j)=some u) (h1:∀ u∈iq,u.oneCell'=true)
  (hm:0 < m) (jC:n + m≤140737488355328) (tW:(n + m) * bytes≤140737488355328)
  (h:∀ g c' w',cr w' e size (some g) (n + m) c' (xs ++ iq)→I a.toList w w'→(a=some g∨w.heap.size≤g)→wpList P s7 fv rest (b7.put o.dst (M (some ⟨g,0,none⟩) (n + m) c')) w'):wpList P s7 fv (o::rest) b7 w:=
 wpList_plain S0 fun ai af=> by
  obtain ⟨g,c',w',aO,h2,h3,h4⟩:=Ph (P:=P) w t o.type e i z size bytes ht hi aW vb ps tz cZ a n c xs hown aX m eG iq hl hnews h1 hm jC tW;unfold Oper.wp execOp;simp only [ds,resolve,invoke,builtin,Sem.run_bind,Sem.run_pure,Result.andThen_ok,List.map_toArray,List.map_cons,List.map_nil,hs,hx,aO];exact af _ _ (h g c' w' h2 h3 h4)
theorem adI {P:Program} {s7:Array Oper} {o:Oper} {b7:Act} {w:World} {ai:Act→World→Prop} {fv:Exit→Act→World→Prop} {kb:Prop}
  (hg:o.guard=none) (s x:Operand) (t:TypeId) (mL:o.op=Op.call {callee:=Callee.builtin Builtin.append,args:=#[s,x],argTypes:=#[t,t]})
  (e:TypeId) (i:TypeInfo) (z:Value) (size bytes:Nat) (ht:P.underlying t=some (.slice e)) (hi:P.info? e=some i) (aW:i.zero=some z)
  (vb:i.size=size) (ps:i.bytes=bytes) (tz:z.cells.size=size) (cZ:0 < size)
  (a:Option Nat) (n c:Nat) (xs:List Value) (hs:b7.eval s=de a n c) (hown:cr w e size a n c xs)
  (aX:Addr) (m eG:Nat) (iq:List Value) (hx:b7.eval x=M (some aX) m eG) (hl:iq.length=m * size) (hnews:∀ j u,iq[j]? =some u→w.cell? (aX.add j)=some u) (h1:∀ u∈iq,u.oneCell'=true)
  (hm:0 < m) (jC:n + m≤140737488355328) (tW:(n + m) * bytes≤140737488355328)
  (h:∀ g c' w',cr w' e size (some g) (n + m) c' (xs ++ iq)→I a.toList w w'→(a=some g∨w.heap.size≤g)→ai (b7.put o.dst (M (some ⟨g,0,none⟩) (n + m) c')) w'):
  if Region.wanted o (yielded s7 b7.tmps)=true then Oper.wp P o b7 w ai fv else kb:=by
 have h9:Region.wanted o (yielded s7 b7.tmps)=true:=by simp [Region.wanted,hg]
 rw [if_pos h9];obtain ⟨g,c',w',aO,h2,h3,h4⟩:=Ph (P:=P) w t o.type e i z size bytes ht hi aW vb ps tz cZ a n c xs hown aX m eG iq hl hnews h1 hm jC tW;unfold Oper.wp execOp;simp only [mL,resolve,invoke,builtin,Sem.run_bind,Sem.run_pure,Result.andThen_ok,List.map_toArray,List.map_cons,List.map_nil,hs,hx,aO];exact h g c' w' h2 h3 h4
theorem cr.set {w:World} {e g n c:Nat} {xs:List Value} (h:cr w e 1 (some g) n c xs) (i:Nat) (v:Value):cr (w.setCell ⟨g,i,none⟩ v) e 1 (some g) n c (xs.set i v):=by
 obtain ⟨h1,cur,h2,h3,h4,h5,eW⟩:=h;refine ⟨by simpa using h1,_,heap_setCell_same w g i _ e v h2,h3,h4,by simpa using h5,?_⟩;subst eW;simp [List.take_set]
inductive Tree where
 | node (op:Int) (set:List (Int × Int)) (kids:List Tree) (mn mx mode n:Int) (neg:Bool)
inductive MRe where
 | node (op:Int) (sa:Option Addr) (sc:Nat) (set:List (Int × Int)) (ka:Option Addr) (kc:Nat) (kids:List MRe) (mn mx mode n:Int) (neg:Bool)
mutual
def MRe.ab:MRe→Tree
 | .node op _ _ set _ _ kids mn mx mode n neg=> .node op set (MRe.al kids) mn mx mode n neg
def MRe.al:List MRe→List Tree
 | []=> []
 | k::ks=> k.ab::MRe.al ks
end
theorem MRe.kP (l:List MRe):MRe.al l=l.map MRe.ab:=by
 induction l with
 | nil=> rfl
 | cons k ks ih=> simp [MRe.al,ih]
theorem MRe.ee (l:List MRe):(MRe.al l).length=l.length:=by simp [MRe.kP]
namespace Tree
def op:Tree→Int | .node op _ _ _ _ _ _ _=> op
def set:Tree→List (Int × Int) | .node _ set _ _ _ _ _ _=> set
def kids:Tree→List Tree | .node _ _ kids _ _ _ _ _=> kids
def mn:Tree→Int | .node _ _ _ mn _ _ _ _=> mn
def mx:Tree→Int | .node _ _ _ _ mx _ _ _=> mx
def mode:Tree→Int | .node _ _ _ _ _ mode _ _=> mode
def n:Tree→Int | .node _ _ _ _ _ _ n _=> n
def neg:Tree→Bool | .node _ _ _ _ _ _ _ neg=> neg
def nil:Tree:=.node 0 [] [] 0 0 0 0 false
mutual
def bm:Tree→Nat
 | .node _ set kids _ _ _ _ _=> 1 + set.length + ed kids
def ed:List Tree→Nat
 | []=> 0
 | k::ks=> k.bm + ed ks
end
theorem Ff {k:Tree} {l:List Tree} (h:k∈l):k.bm≤ed l:=by
 induction l with
 | nil=> simp at h
 | cons x xs ih=>
  rcases List.mem_cons.1 h with rfl | h
  ·simp [ed]
  ·have:=ih h;simp only [ed];omega
theorem Xo (t:Tree):1≤t.bm:=by cases t;simp only [bm];omega
theorem Ug (l:List Tree):l.length≤ed l:=by
 induction l with
 | nil=> simp [ed]
 | cons x xs ih=> have:=Xo x;simp only [List.length_cons,ed];omega
theorem J0 (a b:List Tree):ed (a ++ b)=ed a + ed b:=by
 induction a with
 | nil=> simp [ed]
 | cons x xs ih=> simp only [List.cons_append,ed,ih];omega
theorem Hs (l:List Tree) (i:Nat):ed l=ed (l.take i) + ed (l.drop i):=by
 rw [←J0,List.take_append_drop]
theorem nq {P:Tree→Prop} (h:∀ op set kids mn mx mode n neg,(∀ k∈kids,P k)→P (.node op set kids mn mx mode n neg)):∀ t,P t:=by
 intro t
 induction ad:t.bm using Nat.strongRecOn generalizing t with
 | _ b ih=>
  cases t with
  | node op set kids mn mx mode n neg=>
   refine h op set kids mn mx mode n neg fun k hk=> ih k.bm ?_ k rfl;subst ad
   have:=Ff hk
   simp only [bm];omega
end Tree
namespace MRe
def row:MRe→List Value
 | .node op sa sc set ka kc kids mn mx mode n neg=> [H J op,M sa set.length sc,M ka kids.length kc,H J mn,H J mx,H J mode,H J n,F neg]
def val:MRe→Value
 | .node op sa sc set ka kc kids mn mx mode n neg=> .agg #[H J op,M sa set.length sc,M ka kids.length kc,H J mn,H J mx,H J mode,H J n,F neg]
theorem rU (m:MRe):m.row.length=8:=by cases m;rfl
def op:MRe→Int | .node op _ _ _ _ _ _ _ _ _ _ _=> op
def set:MRe→List (Int × Int) | .node _ _ _ set _ _ _ _ _ _ _ _=> set
def kids:MRe→List MRe | .node _ _ _ _ _ _ kids _ _ _ _ _=> kids
def nil:MRe:=.node 0 none 0 [] none 0 [] 0 0 0 0 false
theorem ane (m:MRe):∀ u∈m.row,u.oneCell'=true:=by
 cases m
 intro u cy;simp [row] at cy
 rcases cy with rfl | rfl | rfl | rfl | rfl | rfl | rfl | rfl <;> rfl
end MRe
structure eK (w:World) (sa:Option Addr) (sc:Nat) (set:List (Int × Int)):Prop where
 le:set.length≤sc
 cap:sc≤maxLen
 Ei:sa=none→sc=0
 at_:0 < sc→∃ b off,sa=some ⟨b,off,none⟩∧b < w.heap.size∧∀ i (h:i < set.length),w.cell? ⟨b,off + i * 2,none⟩=some (H J set[i].1)∧w.cell? ⟨b,off + i * 2 + 1,none⟩=some (H J set[i].2)
structure hH (w:World) (ka:Option Addr) (kc:Nat) (kids:List MRe):Prop where
 le:kids.length≤kc
 cap:kc≤maxLen
 Ei:ka=none→kc=0
 at_:0 < kc→∃ b off,ka=some ⟨b,off,none⟩∧b < w.heap.size∧∀ i (h:i < kids.length) j (c8:j < kids[i].row.length),w.cell? ⟨b,off + i * 8 + j,none⟩=some kids[i].row[j]
inductive MRe.aK (w:World):MRe→Prop
 | mk {op sa sc set ka kc kids mn mx mode n neg} (hs:eK w sa sc set) (hk:hH w ka kc kids) (aO:∀ k,k∈kids→MRe.aK w k):MRe.aK w (.node op sa sc set ka kc kids mn mx mode n neg)
theorem eK.ah {w w':World} {sa:Option Addr} {sc:Nat} {set:List (Int × Int)} (h:eK w sa sc set) (k:I [] w w'):eK w' sa sc set:=
 ⟨h.le,h.cap,h.Ei,fun h0=> by
  obtain ⟨b,off,h1,ad,h2⟩:=h.at_ h0;exact ⟨b,off,h1,Nat.lt_of_lt_of_le ad k.size,fun i hi=> ⟨k.cell (h2 i hi).1 (by simp),k.cell (h2 i hi).2 (by simp)⟩⟩⟩
theorem hH.ah {w w':World} {ka:Option Addr} {kc:Nat} {kids:List MRe} (h:hH w ka kc kids) (k:I [] w w'):hH w' ka kc kids:=
 ⟨h.le,h.cap,h.Ei,fun h0=> by
  obtain ⟨b,off,h1,ad,h2⟩:=h.at_ h0;exact ⟨b,off,h1,Nat.lt_of_lt_of_le ad k.size,fun i hi j c8=> k.cell (h2 i hi j c8) (by simp)⟩⟩
theorem MRe.aK.ah {w w':World} (k:I [] w w') {m:MRe} (h:m.aK w):m.aK w':=by
 induction h with
 | mk hs hk _ ih=> exact .mk (hs.ah k) (hk.ah k) ih
theorem MRe.aK.nV {w:World} {op sa sc set ka kc kids mn mx mode n neg} (h:MRe.aK w (.node op sa sc set ka kc kids mn mx mode n neg)):eK w sa sc set:=by cases h;assumption
theorem MRe.aK.ch {w:World} {op sa sc set ka kc kids mn mx mode n neg} (h:MRe.aK w (.node op sa sc set ka kc kids mn mx mode n neg)):hH w ka kc kids:=by cases h;assumption
theorem MRe.aK.dy {w:World} {op sa sc set ka kc kids mn mx mode n neg} (h:MRe.aK w (.node op sa sc set ka kc kids mn mx mode n neg)) {k:MRe} (hk:k∈kids):k.aK w:=by cases h with | mk _ _ aO=> exact aO k hk
structure gT (w:World) (ka:Option Addr) (kc:Nat) (kids:List MRe):Prop where
 ch:hH w ka kc kids
 all:∀ k∈kids,k.aK w
theorem gT.ah {w w':World} {ka:Option Addr} {kc:Nat} {kids:List MRe} (h:gT w ka kc kids) (k:I [] w w'):gT w' ka kc kids:=⟨h.ch.ah k,fun x hx=> (h.all x hx).ah k⟩
theorem MRe.aK.kids {w:World} {op sa sc set ka kc kids mn mx mode n neg} (h:MRe.aK w (.node op sa sc set ka kc kids mn mx mode n neg)):gT w ka kc kids:=⟨h.ch,fun _ hk=> h.dy hk⟩
theorem MRe.aK.hR {w:World} {op sa sc set ka kc kids mn mx mode n neg} (hs:eK w sa sc set) (hk:gT w ka kc kids):MRe.aK w (.node op sa sc set ka kc kids mn mx mode n neg):=.mk hs hk.ch hk.all
theorem eK.nil (w:World):eK w none 0 []:=⟨by simp,by unfold maxLen;omega,fun _=> rfl,fun h=> by omega⟩
theorem hH.nil (w:World):hH w none 0 []:=⟨by simp,by unfold maxLen;omega,fun _=> rfl,fun h=> by omega⟩
theorem gT.nil (w:World):gT w none 0 []:=⟨hH.nil w,by simp⟩
theorem MRe.aK.nil (w:World):MRe.nil.aK w:=.hR (eK.nil w) (gT.nil w)
structure agJ (w:World) (b o:Nat) (op:Int) (sa:Option Addr) (ns sc:Nat) (ka:Option Addr) (nk kc:Nat) (mn mx mode n:Int) (neg:Bool):Prop where
 ar:w.cell? ⟨b,o,none⟩=some (H J op)
 c1:w.cell? ⟨b,o + 1,none⟩=some (M sa ns sc)
 c2:w.cell? ⟨b,o + 2,none⟩=some (M ka nk kc)
 an:w.cell? ⟨b,o + 3,none⟩=some (H J mn)
 av:w.cell? ⟨b,o + 4,none⟩=some (H J mx)
 ay:w.cell? ⟨b,o + 5,none⟩=some (H J mode)
 ax:w.cell? ⟨b,o + 6,none⟩=some (H J n)
 az:w.cell? ⟨b,o + 7,none⟩=some (F neg)
def fb (w:World) (b o:Nat) (m:MRe):Prop:=∀ j (c8:j < m.row.length),w.cell? ⟨b,o + j,none⟩=some m.row[j]
theorem fb.node {w:World} {b o:Nat} {op sa sc set ka kc kids mn mx mode n neg} (h:fb w b o (.node op sa sc set ka kc kids mn mx mode n neg)):agJ w b o op sa set.length sc ka kids.length kc mn mx mode n neg:=
 ⟨h 0 (by rw [MRe.rU];omega),h 1 (by rw [MRe.rU];omega),h 2 (by rw [MRe.rU];omega),h 3 (by rw [MRe.rU];omega),h 4 (by rw [MRe.rU];omega),h 5 (by rw [MRe.rU];omega),h 6 (by rw [MRe.rU];omega),h 7 (by rw [MRe.rU];omega)⟩
theorem fb.ah {w w':World} {b o:Nat} {m:MRe} (h:fb w b o m) (k:I [] w w'):fb w' b o m:=fun j c8=> k.cell (h j c8) (by simp)
theorem hH.dy {w:World} {ka:Option Addr} {kc:Nat} {kids:List MRe} (h:hH w ka kc kids) (h0:0 < kids.length):∃ b off,ka=some ⟨b,off,none⟩∧b < w.heap.size∧∀ i (h:i < kids.length),fb w b (off + i * 8) kids[i]:=by
 obtain ⟨b,off,h1,ad,h2⟩:=h.at_ (by have:=h.le;omega);exact ⟨b,off,h1,ad,h2⟩
theorem fb.kq {w:World} {b:Nat} {cs:Array Value} {T:Nat} {fz:Nat × Nat} {m:MRe} (h:w.heap[b]? =some (.cells cs T fz)) (hc:cs=m.row.toArray):fb w b 0 m:=by
 subst hc;intro j c8;simp [World.cell?,h,c8]
def fX (kids:List MRe):List Value:=kids.flatMap MRe.row
theorem Cg (kids:List MRe):(fX kids).length=kids.length * 8:=by
 induction kids with
 | nil=> rfl
 | cons k ks ih=> simp only [fX,List.flatMap_cons,List.length_append,MRe.rU,List.length_cons] at ih ⊢;omega
theorem Cf (a b:List MRe):fX (a ++ b)=fX a ++ fX b:=by simp [fX]
theorem R0 (kids:List MRe) (i:Nat) (hi:i < kids.length) (j:Nat) (c8:j < kids[i].row.length):(fX kids)[i * 8 + j]? =some kids[i].row[j]:=by
 induction kids generalizing i with
 | nil=> simp at hi
 | cons k ks ih=>
  have hk:=MRe.rU k
  cases i with
  | zero=>
   have FC:j < k.row.length:=c8;simp only [fX,List.flatMap_cons,Nat.zero_mul,Nat.zero_add,List.getElem_cons_zero];rw [List.getElem?_append_left FC,List.getElem?_eq_getElem FC]
  | succ i=>
   have:=ih i (by simpa using hi) c8
   simp only [fX,List.flatMap_cons,List.getElem_cons_succ] at this ⊢;rw [List.getElem?_append_right (by omega),hk,show (i + 1) * 8 + j - 8=i * 8 + j by omega];exact this
theorem wT (kids:List MRe):∀ u∈fX kids,u.oneCell'=true:=by
 intro u cy;obtain ⟨k,_,h⟩:=List.mem_flatMap.1 cy;exact k.ane u h
def gU (set:List (Int × Int)):List Value:=set.flatMap fun s=> [H J s.1,H J s.2]
theorem zL (set:List (Int × Int)):(gU set).length=set.length * 2:=by
 induction set with
 | nil=> rfl
 | cons k ks ih=> simp only [gU,List.flatMap_cons,List.length_append,List.length_cons,List.length_nil] at ih ⊢;omega
theorem Dx (a b:List (Int × Int)):gU (a ++ b)=gU a ++ gU b:=by simp [gU]
theorem Kd (set:List (Int × Int)) (i:Nat) (hi:i < set.length):(gU set)[i * 2]? =some (H J set[i].1)∧(gU set)[i * 2 + 1]? =some (H J set[i].2):=by
 induction set generalizing i with
 | nil=> simp at hi
 | cons k ks ih=>
  cases i with
  | zero=> simp [gU]
  | succ i=>
   have:=ih i (by simpa using hi)
   have e:gU (k::ks)=H J k.1::H J k.2::gU ks:=rfl;rw [e,show (i + 1) * 2=i * 2 + 2 by omega]
   simpa using this
theorem Ke (set:List (Int × Int)):∀ u∈gU set,u.oneCell'=true:=by
 intro u cy;obtain ⟨k,_,h⟩:=List.mem_flatMap.1 cy;simp at h
 rcases h with rfl | rfl <;> rfl
theorem hH.we {w:World} {e:Nat} {a:Option Nat} {n c:Nat} {kids:List MRe} (h:cr w e 8 a n c (fX kids)):hH w (a.map fun g=> ⟨g,0,none⟩) c kids:=by
 have hl:kids.length=n:=by have:=h.1;rw [Cg] at this;omega
 cases a with
 | none=> obtain ⟨_,h2,h3⟩:=h;subst h3;exact ⟨by omega,by unfold maxLen;omega,fun _=> rfl,fun h0=> by omega⟩
 | some g=>
  have hc:=h.cell;have ad:=h.lt;obtain ⟨_,cur,h2,h3,h4,_⟩:=h;refine ⟨by omega,h4,by simp,fun _=> ⟨g,0,rfl,ad,fun i hi j c8=> ?_⟩⟩;have h5:=R0 kids i hi j c8;obtain ⟨eW,h7⟩:=List.getElem?_eq_some_iff.1 h5;rw [Nat.zero_add,hc _ eW,h7]
theorem eK.we {w:World} {e:Nat} {a:Option Nat} {n c:Nat} {set:List (Int × Int)} (h:cr w e 2 a n c (gU set)):eK w (a.map fun g=> ⟨g,0,none⟩) c set:=by
 have hl:set.length=n:=by have:=h.1;rw [zL] at this;omega
 cases a with
 | none=> obtain ⟨_,h2,h3⟩:=h;subst h3;exact ⟨by omega,by unfold maxLen;omega,fun _=> rfl,fun h0=> by omega⟩
 | some g=>
  have hc:=h.cell;have ad:=h.lt;obtain ⟨_,cur,h2,h3,h4,_⟩:=h;refine ⟨by omega,h4,by simp,fun _=> ⟨g,0,rfl,ad,fun i hi=> ?_⟩⟩;obtain ⟨h5,eW⟩:=Kd set i hi;obtain ⟨h7,ix⟩:=List.getElem?_eq_some_iff.1 h5;obtain ⟨lg,pZ⟩:=List.getElem?_eq_some_iff.1 eW;rw [Nat.zero_add,hc _ h7,ix,hc _ lg,pZ];exact ⟨rfl,rfl⟩
theorem hH.kq {w:World} {b:Nat} {cs:Array Value} {T:Nat} {fz:Nat × Nat} {kids:List MRe} (h:w.heap[b]? =some (.cells cs T fz)) (hc:cs.toList=fX kids) (hm:kids.length≤maxLen):hH w (some ⟨b,0,none⟩) kids.length kids:=by
 refine ⟨Nat.le_refl _,hm,by simp,fun _=> ⟨b,0,rfl,lt_of_block h,fun i hi j c8=> ?_⟩⟩;have h5:=R0 kids i hi j c8;rw [Nat.zero_add];simp only [World.cell?,h];rw [←hc] at h5
 simpa using h5
theorem eK.kq {w:World} {b:Nat} {cs:Array Value} {T:Nat} {fz:Nat × Nat} {set:List (Int × Int)} (h:w.heap[b]? =some (.cells cs T fz)) (hc:cs.toList=gU set) (hm:set.length≤maxLen):eK w (some ⟨b,0,none⟩) set.length set:=by
 refine ⟨Nat.le_refl _,hm,by simp,fun _=> ⟨b,0,rfl,lt_of_block h,fun i hi=> ?_⟩⟩;obtain ⟨h5,eW⟩:=Kd set i hi;rw [Nat.zero_add];simp only [World.cell?,h];rw [←hc] at h5 eW;exact ⟨by simpa using h5,by simpa using eW⟩
theorem hH.RY {w:World} {ka:Option Addr} {kc:Nat} {kids:List MRe} (h:hH w ka kc kids) (h0:0 < kids.length):∃ b off,ka=some ⟨b,off,none⟩∧b < w.heap.size∧∀ j u,(fX kids)[j]? =some u→w.cell? ⟨b,off + j,none⟩=some u:=by
 obtain ⟨b,off,h1,ad,h2⟩:=h.at_ (by have:=h.le;omega);refine ⟨b,off,h1,ad,fun j u cy=> ?_⟩;have c8:j < (fX kids).length:=(List.getElem?_eq_some_iff.1 cy).1;rw [Cg] at c8;have hi:j / 8 < kids.length:=by omega
 have aO:j % 8 < kids[j / 8].row.length:=by rw [MRe.rU];omega
 have h3:=h2 (j / 8) hi (j % 8) aO;have h4:=R0 kids (j / 8) hi (j % 8) aO;rw [show j / 8 * 8 + j % 8=j by omega,cy] at h4;rw [show off + j / 8 * 8 + j % 8=off + j by omega] at h3;rw [h3,h4]
theorem eK.RY {w:World} {ka:Option Addr} {kc:Nat} {set:List (Int × Int)} (h:eK w ka kc set) (h0:0 < set.length):∃ b off,ka=some ⟨b,off,none⟩∧b < w.heap.size∧∀ j u,(gU set)[j]? =some u→w.cell? ⟨b,off + j,none⟩=some u:=by
 obtain ⟨b,off,h1,ad,h2⟩:=h.at_ (by have:=h.le;omega);refine ⟨b,off,h1,ad,fun j u cy=> ?_⟩;have c8:j < (gU set).length:=(List.getElem?_eq_some_iff.1 cy).1;rw [zL] at c8;have hi:j / 2 < set.length:=by omega
 obtain ⟨h3,h4⟩:=h2 (j / 2) hi;obtain ⟨h5,eW⟩:=Kd set (j / 2) hi
 rcases (show j=j / 2 * 2∨j=j / 2 * 2 + 1 by omega) with e | e
 ·rw [e,h5] at cy;cases cy;rw [←h3];congr 2;omega
 ·rw [e,eW] at cy;cases cy;rw [←h4];congr 2;omega
theorem Hm (b o j:Nat):(⟨b,o,none⟩:Addr).add j=⟨b,o + j,none⟩:=by unfold Addr.add;split <;> simp_all
theorem Bd (w:World) (cs:Array Value) (T i:Nat):(w.alloc (.cells cs T)).cell? ⟨w.heap.size,i,none⟩=cs[i]?:=by
 have h:=heap_alloc_new w (.cells cs T);unfold World.cell?;rw [h]
 rfl
theorem fb.box {w:World} {cs:Array Value} {T:Nat} {m:MRe} (h:cs.toList=m.row):fb (w.alloc (.cells cs T)) w.heap.size 0 m:=
 fb.kq (heap_alloc_new w _) (by rw [←h])
theorem I.a1 (w:World) (a:Obj):I [] w (w.alloc a):=(I.refl [] w).alloc a
theorem I.a2 (w:World) (a b:Obj):I [] w ((w.alloc a).alloc b):=(I.a1 w a).alloc b
theorem I.a3 (w:World) (a b c:Obj):I [] w (((w.alloc a).alloc b).alloc c):=(I.a2 w a b).alloc c
theorem I.a4 (w:World) (a b c d:Obj):I [] w ((((w.alloc a).alloc b).alloc c).alloc d):=(I.a3 w a b c).alloc d
theorem hH.drop {w:World} {b off kc:Nat} {kids:List MRe} (h:hH w (some ⟨b,off,none⟩) kc kids) (i:Nat) (hi:i≤kids.length):hH w (if kc=i then some ⟨b,off,none⟩ else some ⟨b,off + i * 8,none⟩) (kc - i) (kids.drop i):=by
 have fc:=h.le;have hcap:=h.cap;refine ⟨by rw [List.length_drop];omega,by omega,by split <;> simp,fun h0=> ?_⟩;rw [if_neg (by omega)];obtain ⟨iw,off',h1,ad,h2⟩:=h.at_ (by omega)
 cases h1
 refine ⟨b,off + i * 8,rfl,ad,fun k hk j c8=> ?_⟩;have Ct:i + k < kids.length:=by rw [List.length_drop] at hk;omega
 have:=h2 (i + k) Ct j (by rw [MRe.rU] at c8 ⊢;exact c8)
 rw [show off + i * 8 + k * 8 + j=off + (i + k) * 8 + j by omega,this]
 simp
theorem hH.take {w:World} {ka:Option Addr} {kc:Nat} {kids:List MRe} (h:hH w ka kc kids) (i:Nat):hH w ka kc (kids.take i):=by
 have fc:=h.le;refine ⟨by rw [List.length_take];omega,h.cap,h.Ei,fun h0=> ?_⟩;obtain ⟨b,off,h1,ad,h2⟩:=h.at_ h0;refine ⟨b,off,h1,ad,fun k hk j c8=> ?_⟩;have Ct:k < kids.length:=by rw [List.length_take] at hk;omega
 have:=h2 k Ct j (by rw [MRe.rU] at c8 ⊢;exact c8)
 rw [this]
 simp
theorem ant {P:Program} (w:World) (t lT e:TypeId) (i:TypeInfo) (ht:P.underlying t=some (.slice e)) (hi:P.info? e=some i) (Ry:Option Addr) (n c:Nat) (wu:Option Addr) (eG:Nat) (hn:n≤c):
  (Builtin.append_ #[t,t] lT #[M Ry n c,M wu 0 eG]).run P w=.ok (M Ry n c) w:=by
 have Zc:(Builtin.firstCells i.size 0 (M wu 0 eG)).run P w=.ok #[] w:=by
  cases wu with
  | none=> simp [Builtin.firstCells]
  | some a=> simpa using run_firstCells_some (P:=P) (w:=w) i.size 0 a 0 eG [] (by simp) (by simp)
 have eE:∀ (a:Addr),(storeCells a []).run P w=.ok () w:=fun a=> by simp [storeCells]
 cases Ry with
 | none=> simp [Builtin.append_,run_underlying ht,typeInfo,hi,Zc,Builtin.lenOf,hn,sizeOf]
 | some a=> simp [Builtin.append_,run_underlying ht,typeInfo,hi,Zc,Builtin.lenOf,hn,eE,sizeOf]
theorem ac6 {P:Program} (w:World) (t lT e:TypeId) (i:TypeInfo) (z:Value) (size bytes:Nat) (ht:P.underlying t=some (.slice e)) (hi:P.info? e=some i) (aW:i.zero=some z)
  (vb:i.size=size) (ps:i.bytes=bytes) (tz:z.cells.size=size) (cZ:0 < size)
  (a:Option Nat) (n c:Nat) (xs:List Value) (hown:cr w e size a n c xs)
  (wu:Option Addr) (m eG:Nat) (iq:List Value) (hl:iq.length=m * size) (hnews:0 < m→∃ aX,wu=some aX∧∀ j u,iq[j]? =some u→w.cell? (aX.add j)=some u) (h1:∀ u∈iq,u.oneCell'=true)
  (jC:n + m≤140737488355328) (tW:(n + m) * bytes≤140737488355328):
  ∃ dZ c' w',(Builtin.append_ #[t,t] lT #[de a n c,M wu m eG]).run P w=.ok (de dZ (n + m) c') w'∧cr w' e size dZ (n + m) c' (xs ++ iq)∧I a.toList w w'∧(dZ=a∨∃ g,dZ=some g∧w.heap.size≤g):=by
 by_cases hm:m=0
 ·subst hm;have hx:iq=[]:=List.eq_nil_of_length_eq_zero (by simpa using hl);subst hx;have DV:n≤c:=by
   cases a with
   | none=> obtain ⟨_,h2,h3⟩:=hown;omega
   | some g=> obtain ⟨_,cur,_,h3,_⟩:=hown;exact h3
  exact ⟨a,c,w,ant w t lT e i ht hi _ n c wu eG DV,by simpa using hown,I.refl _ _,.inl rfl⟩
 ·obtain ⟨aX,rfl,hc⟩:=hnews (by omega);obtain ⟨g,c',w',aO,h2,h3,h4⟩:=Ph (P:=P) w t lT e i z size bytes ht hi aW vb ps tz cZ a n c xs hown aX m eG iq hl hc h1 (by omega) jC tW;refine ⟨some g,c',w',aO,h2,h3,?_⟩
  rcases h4 with h | h
  ·exact .inl h.symm
  ·exact .inr ⟨g,rfl,h⟩
theorem tF {P:Program} {w:World} {s7:Array Oper} {rest:List Oper} {o:Oper} {b7:Act} {fv:Exit→Act→World→Prop} (S0:o.guard=none) (s x:Operand) (t:TypeId)
  (ds:o.op=.call {callee:=.builtin .append,args:=#[s,x],argTypes:=#[t,t]})
  (e:TypeId) (i:TypeInfo) (z:Value) (size bytes:Nat) (ht:P.underlying t=some (.slice e)) (hi:P.info? e=some i) (aW:i.zero=some z)
  (vb:i.size=size) (ps:i.bytes=bytes) (tz:z.cells.size=size) (cZ:0 < size)
  (a:Option Nat) (n c:Nat) (xs:List Value) (hs:b7.eval s=de a n c) (hown:cr w e size a n c xs)
  (wu:Option Addr) (m eG:Nat) (iq:List Value) (hx:b7.eval x=M wu m eG) (hl:iq.length=m * size) (hnews:0 < m→∃ aX,wu=some aX∧∀ j u,iq[j]? =some u→w.cell? (aX.add j)=some u) (h1:∀ u∈iq,u.oneCell'=true)
  (jC:n + m≤140737488355328) (tW:(n + m) * bytes≤140737488355328)
  (h:∀ dZ c' w',cr w' e size dZ (n + m) c' (xs ++ iq)→I a.toList w w'→(dZ=a∨∃ g,dZ=some g∧w.heap.size≤g)→wpList P s7 fv rest (b7.put o.dst (de dZ (n + m) c')) w'):wpList P s7 fv (o::rest) b7 w:=
 wpList_plain S0 fun ai af=> by
  obtain ⟨dZ,c',w',aO,h2,h3,h4⟩:=ac6 (P:=P) w t o.type e i z size bytes ht hi aW vb ps tz cZ a n c xs hown wu m eG iq hl hnews h1 jC tW;unfold Oper.wp execOp;simp only [ds,resolve,invoke,builtin,Sem.run_bind,Sem.run_pure,Result.andThen_ok,List.map_toArray,List.map_cons,List.map_nil,hs,hx,aO];exact af _ _ (h dZ c' w' h2 h3 h4)
theorem hH.src {w:World} {ka:Option Addr} {kc:Nat} {kids:List MRe} (h:hH w ka kc kids):0 < kids.length→∃ aX,ka=some aX∧∀ j u,(fX kids)[j]? =some u→w.cell? (aX.add j)=some u:=fun h0=> by
 obtain ⟨b,off,h1,_,h2⟩:=h.RY h0;exact ⟨⟨b,off,none⟩,h1,fun j u cy=> by rw [Hm];exact h2 j u cy⟩
theorem eK.src {w:World} {ka:Option Addr} {kc:Nat} {set:List (Int × Int)} (h:eK w ka kc set):0 < set.length→∃ aX,ka=some aX∧∀ j u,(gU set)[j]? =some u→w.cell? (aX.add j)=some u:=fun h0=> by
 obtain ⟨b,off,h1,_,h2⟩:=h.RY h0;exact ⟨⟨b,off,none⟩,h1,fun j u cy=> by rw [Hm];exact h2 j u cy⟩
def ik:List (Int × Int)→Int
 | []=> 0
 | (a,b)::r=> if a < b then -1 else if b < a then 1 else ik r
def rb (b:Bool):Int:=if b then 1 else 0
def wi (a b:Tree):List (Int × Int):=[(a.mn,b.mn),(a.mx,b.mx),(a.mode,b.mode),(a.n,b.n),(rb a.neg,rb b.neg),((a.kids.length:Int),(b.kids.length:Int))]
def xL (a b:Tree):List (Int × Int):=[(a.op,b.op),((a.set.length:Int),(b.set.length:Int))]
def GG (x y:Int × Int):List (Int × Int):=[(x.1,y.1),(x.2,y.2)]
def pg:List (Int × Int)→List (Int × Int)→List (Int × Int)
 | x::xs,y::kZ=> GG x y ++ pg xs kZ
 | _,_=> []
def qO (a b:Tree):List (Int × Int):=xL a b ++ (pg a.set b.set ++ wi a b)
end Go.Proofs.YtjnlkjlbejelgaaGreat
