/- Part 1 of the proof. No condition: every lemma says its own. -/
import Derived.WalkKit
import Derived.WalkSpells
import Derived.WalkLawsBesides
import Derived.Lib.Hide
import Derived.Laws.CopyOwn
import Derived.Laws.MakeOwn
import Derived.Deep.QuietTactic
import Derived.Laws.AppendOwn
import Derived.Deep.RegionLawGrows
namespace Go.Proofs.YtjnlkjlbejelgaaGreat
open Go.RowKit
open Go.Value renaming int→H,slice→M,bool→F
open Go.IntKind renaming i64→J
set_option maxRecDepth 100000
set_option maxHeartbeats 16000000
structure Hd (p:Prop):Prop where
 o:p
theorem gi {p:Prop} (h:p):Hd p:=⟨h⟩
theorem js {a b c d:Prop} (h:a∧b∧c∧d):Hd a∧Hd b∧Hd c∧Hd d:=⟨⟨h.1⟩,⟨h.2.1⟩,⟨h.2.2.1⟩,⟨h.2.2.2⟩⟩
structure Keeps (S:List Nat) (w w':World):Prop where
 os:w'.os=w.os
 tape:w'.tape=w.tape
 output:w'.output=w.output
 size:w.heap.size≤w'.heap.size
 block:∀ k,k < w.heap.size→k ∉ S→w'.heap[k]? =w.heap[k]?
theorem Keeps.refl (S:List Nat) (w:World):Keeps S w w:=⟨rfl,rfl,rfl,Nat.le_refl _,fun _ _ _=> rfl⟩
theorem Keeps.trans {S:List Nat} {a b c:World} (h:Keeps S a b) (k:Keeps S b c):Keeps S a c:=
 ⟨k.os.trans h.os,k.tape.trans h.tape,k.output.trans h.output,Nat.le_trans h.size k.size,fun i hi hs=> (k.block i (Nat.lt_of_lt_of_le hi h.size) hs).trans (h.block i hi hs)⟩
theorem Keeps.mono {S S':List Nat} {w w':World} (h:Keeps S w w') (hS:∀ k,k∈S→k∈S'∨w.heap.size≤k):Keeps S' w w':=
 ⟨h.os,h.tape,h.output,h.size,fun k hk hs=> h.block k hk (fun hm=> by rcases hS k hm with h1 | h1;exact hs h1;omega)⟩
theorem Keeps.after {S S':List Nat} {a b c:World} (h:Keeps S a b) (k:Keeps S' b c) (hS:∀ x,x∈S'→x∈S∨a.heap.size≤x):Keeps S a c:=
 ⟨k.os.trans h.os,k.tape.trans h.tape,k.output.trans h.output,Nat.le_trans h.size k.size,fun i hi hs=>
  (k.block i (Nat.lt_of_lt_of_le hi h.size) (fun hm=> by rcases hS i hm with h1 | h1;exact hs h1;omega)).trans (h.block i hi hs)⟩
theorem Keeps.drew {S:List Nat} {a w:World} (h:Keeps S a w):Keeps S a w.drew:=⟨h.os,h.tape,h.output,h.size,h.block⟩
theorem Keeps.drewN {S:List Nat} {a w:World} (h:Keeps S a w) (n:Nat):Keeps S a (w.drewN n):=⟨h.os,h.tape,h.output,h.size,h.block⟩
theorem Keeps.alloc {S:List Nat} {a w:World} (h:Keeps S a w) (o:Obj):Keeps S a (w.alloc o):=
 h.trans ⟨rfl,rfl,rfl,by simp,fun k hk _=> Below.heap_alloc _ _ _ (by omega)⟩
theorem Keeps.setCell {S:List Nat} {a w:World} (h:Keeps S a w) {p:Addr} (hp:p.block∈S∨a.heap.size≤p.block) (u:Value):Keeps S a (w.setCell p u):=
 ⟨h.os,h.tape,h.output,by have:=h.size;simp [World.setCell];exact this,fun k hk hs=> by
  rw [Below.heap_setCell _ _ _ _ (fun e=> by rcases hp with h1 | h1;exact hs (e ▸ h1);omega)];exact h.block k hk hs⟩
theorem Keeps.setRow {S:List Nat} {a w:World} (h:Keeps S a w) {g:Nat} (hp:g∈S∨a.heap.size≤g) (cs:Array Value):Keeps S a (w.setRow g cs):=
 ⟨h.os,h.tape,h.output,by have:=h.size;simp;exact this,fun k hk hs=> by
  rw [setRow_other _ _ _ _ (fun e=> by rcases hp with h1 | h1;exact hs (e ▸ h1);omega)];exact h.block k hk hs⟩
theorem Keeps.below {B:Nat} {w w':World} (h:Keeps [] w w') (hB:B≤w.heap.size):Below B w w':=⟨h.os,h.tape,h.output,h.size,fun k hk=> h.block k (by omega) (by simp)⟩
theorem Keeps.of_grown {w w':World} {row:Option Nat} (hg:w.grownBy w' row):Keeps row.toList w w':=
 ⟨hg.os,hg.tape,hg.output,hg.size,fun k hk hs=> hg.block k hk (fun e=> hs (by rw [←e];simp))⟩
theorem Keeps.of_below {w w':World} (h:Below w.heap.size w w'):Keeps [] w w':=⟨h.os,h.tape,h.output,h.size,fun k hk _=> h.block k hk⟩
theorem Keeps.heap {S:List Nat} {w w':World} (h:Keeps S w w') {b:Nat} {o:Obj} (hb:w.heap[b]? =some o) (hs:b ∉ S):w'.heap[b]? =some o:=(h.block b (lt_of_block hb) hs).trans hb
theorem Keeps.cell {S:List Nat} {w w':World} (h:Keeps S w w') {a:Addr} {v:Value} (hc:w.cell? a=some v) (hs:a.block ∉ S):w'.cell? a=some v:=
 (World.cell?_of_block (h.block a.block (World.block_lt_of_cell? w a hc) hs)).trans hc
theorem Keeps.c {S:List Nat} {w w':World} {p:Addr} {v:Value} (k:Keeps S w w') (h:w.cell? p=some v) (hs:p.block ∉ S:=by simp):w'.cell? p=some v:=k.cell h hs
theorem Keeps.h {S:List Nat} {w w':World} {b:Nat} {o:Obj} (k:Keeps S w w') (h:w.heap[b]? =some o) (hs:b ∉ S:=by simp):w'.heap[b]? =some o:=k.heap h hs
theorem Keeps.c8 {S:List Nat} {w w':World} {p0 p1 p2 p3 p4 p5 p6 p7:Addr} {v0 v1 v2 v3 v4 v5 v6 v7:Value} (k:Keeps S w w') (h0:w.cell? p0=some v0) (h1:w.cell? p1=some v1) (h2:w.cell? p2=some v2) (h3:w.cell? p3=some v3) (h4:w.cell? p4=some v4) (h5:w.cell? p5=some v5) (h6:w.cell? p6=some v6) (h7:w.cell? p7=some v7) (hs:p0.block ∉ S∧p1.block ∉ S∧p2.block ∉ S∧p3.block ∉ S∧p4.block ∉ S∧p5.block ∉ S∧p6.block ∉ S∧p7.block ∉ S:=by simp):w'.cell? p0=some v0∧w'.cell? p1=some v1∧w'.cell? p2=some v2∧w'.cell? p3=some v3∧w'.cell? p4=some v4∧w'.cell? p5=some v5∧w'.cell? p6=some v6∧w'.cell? p7=some v7:=by
 obtain ⟨s0,s1,s2,s3,s4,s5,s6,s7⟩:=hs;exact ⟨k.cell h0 s0,k.cell h1 s1,k.cell h2 s2,k.cell h3 s3,k.cell h4 s4,k.cell h5 s5,k.cell h6 s6,k.cell h7 s7⟩
def Ints (E:Nat) (w:World) (b:Nat) (zs:List Int):Prop:=w.heap[b]? =some (.cells (zs.map (H J)).toArray E (0,0))
theorem Ints.lt {E:Nat} {w:World} {b:Nat} {zs:List Int} (h:Ints E w b zs):b < w.heap.size:=lt_of_block h
theorem Ints.fz {E:Nat} {w:World} {b:Nat} {zs:List Int} (h:Ints E w b zs) (i:Nat):w.frozen? ⟨b,i,none⟩=false:=by unfold Ints at h;simp [World.frozen?,h]
theorem Ints.cell {E:Nat} {w:World} {b:Nat} {zs:List Int} (h:Ints E w b zs) (i:Nat) (hi:i < zs.length):w.cell? ⟨b,i,none⟩=some (H J zs[i]):=by unfold Ints at h;simp [World.cell?,h,hi]
theorem Ints.cellD {E:Nat} {w:World} {b:Nat} {zs:List Int} (h:Ints E w b zs) (i:Nat) (hi:i < zs.length):w.cell? ⟨b,i,none⟩=some (H J (zs[i]?.getD 0)):=by rw [h.cell i hi];simp [hi]
theorem Ints.drewN {E:Nat} {w:World} {b:Nat} {zs:List Int} (h:Ints E w b zs) (n:Nat):Ints E (w.drewN n) b zs:=h
theorem Ints.keep {E:Nat} {S:List Nat} {w w':World} {b:Nat} {zs:List Int} (h:Ints E w b zs) (k:Keeps S w w') (hs:b ∉ S):Ints E w' b zs:=k.heap h hs
theorem Ints.set {E:Nat} {w:World} {b:Nat} {zs:List Int} (h:Ints E w b zs) (i:Nat) (x:Int):Ints E (w.setCell ⟨b,i,none⟩ (H J x)) b (zs.set i x):=by
 have e:=heap_setCell_same w b i _ E (H J x) h;unfold Ints;rw [e]
 congr 2
 apply Array.ext'
 simp [List.map_set]
theorem Ints.alloc (E:Nat) (w:World) (zs:List Int):Ints E (w.alloc (.cells (zs.map (H J)).toArray E)) w.heap.size zs:=heap_alloc_new w _
theorem zeroCells_one (v:Value) (n:Nat):(Builtin.zeroCells #[v] n).toList=List.replicate n v:=by
 apply List.ext_getElem
 ·simp [Builtin.zeroCells]
 ·intro i h1 h2;simp [Builtin.zeroCells,Nat.mod_one]
theorem madeCells_one (v:Value) (n:Nat):madeCells #[v] n=(List.replicate n v).toArray:=by
 apply Array.ext
 ·simp [size_madeCells]
 ·intro j h1 h2;simp [madeCells,Nat.mod_one]
theorem run_clear_ints {P:Program} {E T:Nat} {w:World} {u:Nat} {zs:List Int} (h:Ints E w u zs) (ht:P.underlying T=some (.slice E)) (hv:∀ w,(zeroValue E).run P w=.ok (H J 0) w) (ty c:Nat):
  (Builtin.clear_ #[T] ty #[M (some ⟨u,0,none⟩) zs.length c]).run P w=.ok (.tuple #[]) (w.setRow u ((zs.map fun _=> (0:Int)).map (H J)).toArray):=by
 cases zs with
 | nil=>
  have:=setRow_self w u _ E (0,0) h
  simp [Builtin.clear_,run_underlying ht]
  simpa using this.symm
 | cons z zs=>
  have hst:=run_storeCells_at P u 0 E (List.replicate (zs.length + 1) (H J 0)) 0 _ w h (by simp) (by intro v hv;rw [List.eq_of_mem_replicate hv];rfl);simp only [List.length_cons];simp [Builtin.clear_,run_underlying ht,hv,Value.cells,zeroCells_one,hst]
  congr 1
  apply Array.ext'
  simp [List.replicate_succ];rw [List.drop_of_length_le (by simp)]
  simp
  apply List.ext_getElem
  ·simp
  ·intro i h1 h2;simp
theorem run_make_ints {P:Program} {E T:Nat} {i:TypeInfo} (ht:P.underlying T=some (.slice E)) (hi:P.info? E=some i) (hz:i.zero=some (H J 0)) (hs:i.size=1) (hb:i.bytes=8) (w:World) (n:Int) (h0:0≤n) (h1:n≤17592186044416):
  (Instr.makeSlice T (H J n) (H J n)).run P w=.ok (M (some ⟨w.heap.size,0,none⟩) n.toNat n.toNat) (w.alloc (.cells ((List.replicate n.toNat (0:Int)).map (H J)).toArray E)):=by
 have h:=run_make (P:=P) w T E i (H J 0) ht hi hz .i64 .i64 n n h0 (Int.le_refl _) (by rw [hb];omega) (by omega);rw [h]
 congr 3
 rw [show (H J 0).cells=#[H J 0] from rfl,madeCells_one,hs]
 simp
theorem run_copy_ints {P:Program} {E T:Nat} {i:TypeInfo} (ht:P.underlying T=some (.slice E)) (hi:P.info? E=some i) (hs:i.size=1) {w:World} {g u:Nat} {ys zs:List Int} (hg:Ints E w g ys) (hu:Ints E w u zs) (hl:ys.length=zs.length) (ty c c':Nat):
  (Builtin.copy_ #[T,T] ty #[M (some ⟨g,0,none⟩) zs.length c,M (some ⟨u,0,none⟩) zs.length c']).run P w=.ok (goInt zs.length) (w.setRow g (zs.map (H J)).toArray):=by
 have h:=run_copy_row (P:=P) w T T ty E g 0 zs.length c ⟨u,0,none⟩ zs.length c' _ E (zs.map (H J)) ht (by simp [hi,hs]) hg (by simp)
  (by intro j v hj;unfold Ints at hu;simp only [Addr.add];simp at hj;obtain ⟨x,hx,rfl⟩:=hj;split <;> simp_all [World.cell?]) (by simp [hl]) (by intro v hv;simp at hv;obtain ⟨x,_,rfl⟩:=hv;rfl)
 rw [h]
 simp
 rw [List.drop_of_length_le (by simp [hl])]
 simp
theorem quiet_left {P:Program} {f:FuncId} {args:Array Value} {w:World} {n:Nat} {v:Value}
  (h:Calls P f args (w.drewN n) fun e w'=> e=.returned v∧w.drewN n=w'):Calls P f args (w.drewN n) fun e w''=> e=.returned v∧∃ m,w''=w.drewN m:=
 h.mono fun _ _ ⟨he,hm⟩=> ⟨he,n,hm.symm⟩
theorem quiet_add {P:Program} {f:FuncId} {args:Array Value} {w:World} {a n:Nat} {v:Value}
  (h:Calls P f args (w.drewN (a + n)) fun e w'=> e=.returned v∧∃ m,w'=(w.drewN (a + n)).drewN m):
  Calls P f args (w.drewN (a + n)) fun e w''=> e=.returned v∧∃ m,w''=w.drewN (a + m):=
 h.mono fun _ _ ⟨he,m,hm⟩=> ⟨he,n + m,by rw [hm,World.drewN_drewN,Nat.add_assoc]⟩
theorem quiet_add_left {P:Program} {f:FuncId} {args:Array Value} {w:World} {a n:Nat} {v:Value}
  (h:Calls P f args (w.drewN (a + n)) fun e w'=> e=.returned v∧w.drewN (a + n)=w'):
  Calls P f args (w.drewN (a + n)) fun e w''=> e=.returned v∧∃ m,w''=w.drewN (a + m):=
 h.mono fun _ _ ⟨he,hm⟩=> ⟨he,n,hm.symm⟩
def sv (a:Option Nat) (n c:Nat):Value:=M (a.map fun g=> ⟨g,0,none⟩) n c
def SliceAt (w:World) (e size:Nat) (a:Option Nat) (n c:Nat) (xs:List Value):Prop:=
 xs.length=n * size∧
 match a with
 | none=> n=0∧c=0
 | some g=> ∃ cur:Array Value,w.heap[g]? =some (.cells cur e (0,0))∧n≤c∧c≤maxLen∧cur.size=c * size∧cur.toList.take (n * size)=xs
theorem SliceAt.nil (w:World) (e size:Nat):SliceAt w e size none 0 0 []:=⟨by simp,rfl,rfl⟩
theorem SliceAt.owns {w:World} {e size:Nat} {a:Option Nat} {n c:Nat} {xs:List Value} (h:SliceAt w e size a n c xs):w.ownsRow 0 e size (sv a n c) n xs:=by
 refine ⟨h.1,?_⟩
 cases a with
 | none=> obtain ⟨h1,rfl,rfl⟩:=h;exact .inl ⟨rfl,rfl⟩
 | some g=> obtain ⟨h1,cur,h2,h3,h4,h5,h6⟩:=h;exact .inr ⟨g,c,cur,rfl,Nat.zero_le _,h2,h3,h4,h5,h6⟩
theorem SliceAt.lt {w:World} {e size:Nat} {g:Nat} {n c:Nat} {xs:List Value} (h:SliceAt w e size (some g) n c xs):g < w.heap.size:=by
 obtain ⟨_,cur,h2,_⟩:=h;exact lt_of_block h2
theorem SliceAt.keep {S:List Nat} {w w':World} {e size:Nat} {a:Option Nat} {n c:Nat} {xs:List Value} (h:SliceAt w e size a n c xs) (k:Keeps S w w') (hs:∀ g,a=some g→g ∉ S):SliceAt w' e size a n c xs:=by
 refine ⟨h.1,?_⟩
 cases a with
 | none=> exact h.2
 | some g=> obtain ⟨h1,cur,h2,h3⟩:=h;exact ⟨cur,k.heap h2 (hs g rfl),h3⟩
theorem SliceAt.drewN {w:World} {e size:Nat} {a:Option Nat} {n c:Nat} {xs:List Value} (h:SliceAt w e size a n c xs) (k:Nat):SliceAt (w.drewN k) e size a n c xs:=h.keep ((Keeps.refl [] w).drewN k) (by simp)
theorem SliceAt.alloc {w:World} {e size:Nat} {a:Option Nat} {n c:Nat} {xs:List Value} (h:SliceAt w e size a n c xs) (o:Obj):SliceAt (w.alloc o) e size a n c xs:=h.keep ((Keeps.refl [] w).alloc o) (by simp)
theorem SliceAt.cell {w:World} {e size:Nat} {g:Nat} {n c:Nat} {xs:List Value} (h:SliceAt w e size (some g) n c xs) (i:Nat) (hi:i < xs.length):w.cell? ⟨g,i,none⟩=some xs[i]:=by
 obtain ⟨h1,cur,h2,h3,h4,h5,h6⟩:=h;subst h6;simp at hi;simp [World.cell?,h2]
theorem SliceAt.fz {w:World} {e size:Nat} {g:Nat} {n c:Nat} {xs:List Value} (h:SliceAt w e size (some g) n c xs) (i:Nat):w.frozen? ⟨g,i,none⟩=false:=by
 obtain ⟨h1,cur,h2,_⟩:=h;simp [World.frozen?,h2]
theorem SliceAt.of_row {w:World} {e size:Nat} {g:Nat} {cur:Array Value} {c:Nat} (h:w.heap[g]? =some (.cells cur e (0,0))) (hc:cur.size=c * size) (hm:c≤maxLen):SliceAt w e size (some g) c c cur.toList:=
 ⟨by simp [hc],cur,h,Nat.le_refl _,hm,hc,by rw [List.take_of_length_le (by simp [hc])]⟩
theorem SliceAt.of_ints {w:World} {e:Nat} {g:Nat} {zs:List Int} (h:Ints e w g zs) (hm:zs.length≤maxLen):SliceAt w e 1 (some g) zs.length zs.length (zs.map (H J)):=by
 simpa using SliceAt.of_row (size:=1) h (by simp) hm
theorem news_row (w:World) (xs:List Value) (t:Nat):∀ j u,xs[j]? =some u→(w.alloc (.cells xs.toArray t)).cell? ((⟨w.heap.size,0,none⟩:Addr).add j)=some u:=by
 intro j u hj;have hadd:(⟨w.heap.size,0,none⟩:Addr).add j=⟨w.heap.size,j,none⟩:=by unfold Addr.add;split <;> simp_all
 rw [hadd,cell_of_row _ _ _ _ _ _ (heap_alloc_new w _)]
 simpa using hj
theorem news_row' (w:World) (xs:List Value) (t:Nat) (m:Nat) (hm:m=w.heap.size):∀ j u,xs[j]? =some u→(w.alloc (.cells xs.toArray t)).cell? ((⟨m,0,none⟩:Addr).add j)=some u:=by
 subst hm;exact news_row w xs t
theorem int_one (x:Int):∀ u∈[H J x],u.oneCell'=true:=by
 intro u hu;simp at hu;subst hu;rfl
theorem mem_ownBlock {a:Option Nat} {n c k:Nat} (h:some k≠(sv a n c).ownBlock):k ∉ a.toList:=by
 cases a with
 | none=> simp
 | some g=> simpa [sv,Value.ownBlock] using h
theorem run_append_sl {P:Program} (w:World) (t ty e:TypeId) (i:TypeInfo) (z:Value) (size bytes:Nat) (ht:P.underlying t=some (.slice e)) (hi:P.info? e=some i) (hz:i.zero=some z)
  (hsize:i.size=size) (hby:i.bytes=bytes) (hzs:z.cells.size=size) (hsz:0 < size)
  (a:Option Nat) (n c:Nat) (xs:List Value) (hown:SliceAt w e size a n c xs)
  (ad:Addr) (m cc:Nat) (news:List Value) (hl:news.length=m * size) (hnews:∀ j u,news[j]? =some u→w.cell? (ad.add j)=some u) (h1:∀ u∈news,u.oneCell'=true)
  (hm:0 < m) (hlen:n + m≤140737488355328) (hbytes:(n + m) * bytes≤140737488355328):
  ∃ g c' w',(Builtin.append_ #[t,t] ty #[sv a n c,M (some ad) m cc]).run P w=.ok (M (some ⟨g,0,none⟩) (n + m) c') w'∧SliceAt w' e size (some g) (n + m) c' (xs ++ news)∧Keeps a.toList w w'∧(a=some g∨w.heap.size≤g):=by
 subst hsize;subst hby;have h63:n + m≤maxLen:=by unfold maxLen;omega
 have hlen2:(xs ++ news).length=(n + m) * i.size:=by rw [List.length_append,hown.1,hl,Nat.add_mul]
 have grown:∀ (old:Nat),old < n + m→
   SliceAt (w.drew.alloc (.cells (xs.toArray ++ news.toArray ++ Builtin.zeroCells z.cells (grownCap w (n + m) old e - (n + m))) e)) e i.size (some w.heap.size) (n + m) (grownCap w (n + m) old e) (xs ++ news):=by
  intro old ho;have hge:=grownCap_ge w (n + m) old e;have hcm:grownCap w (n + m) old e≤maxLen:=grownCap_le_maxLen w (n + m) old e h63;refine ⟨hlen2,_,heap_alloc_new w.drew _,hge,hcm,?_,?_⟩
  ·simp only [Array.size_append,List.size_toArray,size_zeroCells,hzs,hown.1,hl,←Nat.add_mul]
   congr 1
   omega
  ·simp only [Array.toList_append,List.append_assoc];rw [←List.append_assoc,←hlen2];exact List.take_left
 have hk:∀ o,Keeps a.toList w (w.drew.alloc o):=fun o=> ((Keeps.refl _ w).drew).alloc o
 cases a with
 | none=>
  obtain ⟨hx,rfl,rfl⟩:=hown;have hx:xs=[]:=List.eq_nil_of_length_eq_zero (by simpa using hx);subst hx;have hr:=run_append_nil (P:=P) w t ty e i z ht hi hz ad m cc news hl hnews (by omega) (by omega) (by have hb:=hbytes;simp only [Nat.zero_add] at hb;omega);have hgr:=grown 0 (by omega);simp only [Nat.zero_add,List.nil_append,Array.empty_append] at hgr ⊢;exact ⟨_,_,_,hr,hgr,hk _,.inr (Nat.le_refl _)⟩
 | some g=>
  obtain ⟨hx,cur,hg,hnc,hcm,hcs,htake⟩:=hown
  by_cases hroom:n + m≤c
  ·have hfit:n * i.size + news.length≤cur.size:=by rw [hl,hcs,←Nat.add_mul];exact Nat.mul_le_mul_right _ hroom
   have hr:=run_append_room (P:=P) w t ty e i ht hi g n c cur hg ad m cc news hl hnews h1 hroom hfit;refine ⟨_,_,_,hr,⟨hlen2,_,setRow_heap w g cur _ e _ hg,hroom,hcm,?_,?_⟩,(Keeps.refl _ w).setRow (by simp) _,.inl rfl⟩
   ·simp only [List.size_toArray,List.length_append,List.length_take,List.length_drop,Array.length_toList];omega
   ·rw [htake,←hlen2];exact List.take_left
  ·have hown:SliceAt w e i.size (some g) n c xs:=⟨hx,cur,hg,hnc,hcm,hcs,htake⟩;have holds:∀ j u,xs[j]? =some u→w.cell? ((⟨g,0,none⟩:Addr).add j)=some u:=hown.owns.cells (g:=g) rfl;have hr:=run_append_grow (P:=P) w t ty e i z ht hi hz ⟨g,0,none⟩ n c xs hx holds ad m cc news hl hnews (by omega) (by omega) (growslice_fits (by omega) hbytes);exact ⟨_,_,_,hr,grown c (by omega),hk _,.inr (Nat.le_refl _)⟩
theorem wpList_append_sl {P:Program} {w:World} {ops:Array Oper} {rest:List Oper} {o:Oper} {A:Act} {Q:Exit→Act→World→Prop} (hgd:o.guard=none) (s x:Operand) (t:TypeId)
  (ho:o.op=.call {callee:=.builtin .append,args:=#[s,x],argTypes:=#[t,t]})
  (e:TypeId) (i:TypeInfo) (z:Value) (size bytes:Nat) (ht:P.underlying t=some (.slice e)) (hi:P.info? e=some i) (hz:i.zero=some z)
  (hsize:i.size=size) (hby:i.bytes=bytes) (hzs:z.cells.size=size) (hsz:0 < size)
  (a:Option Nat) (n c:Nat) (xs:List Value) (hs:A.eval s=sv a n c) (hown:SliceAt w e size a n c xs)
  (ad:Addr) (m cc:Nat) (news:List Value) (hx:A.eval x=M (some ad) m cc) (hl:news.length=m * size) (hnews:∀ j u,news[j]? =some u→w.cell? (ad.add j)=some u) (h1:∀ u∈news,u.oneCell'=true)
  (hm:0 < m) (hlen:n + m≤140737488355328) (hbytes:(n + m) * bytes≤140737488355328)
  (h:∀ g c' w',SliceAt w' e size (some g) (n + m) c' (xs ++ news)→Keeps a.toList w w'→(a=some g∨w.heap.size≤g)→wpList P ops Q rest (A.put o.dst (M (some ⟨g,0,none⟩) (n + m) c')) w'):wpList P ops Q (o::rest) A w:=
 wpList_plain hgd fun K hK=> by
  obtain ⟨g,c',w',hr,h2,h3,h4⟩:=run_append_sl (P:=P) w t o.type e i z size bytes ht hi hz hsize hby hzs hsz a n c xs hown ad m cc news hl hnews h1 hm hlen hbytes;unfold Oper.wp execOp;simp only [ho,resolve,invoke,builtin,Sem.run_bind,Sem.run_pure,Result.andThen_ok,List.map_toArray,List.map_cons,List.map_nil,hs,hx,hr];exact hK _ _ (h g c' w' h2 h3 h4)
theorem stepd_append_sl {P:Program} {ops:Array Oper} {o:Oper} {A:Act} {w:World} {K:Act→World→Prop} {Q:Exit→Act→World→Prop} {E:Prop}
  (hg:o.guard=none) (s x:Operand) (t:TypeId) (hop:o.op=Op.call {callee:=Callee.builtin Builtin.append,args:=#[s,x],argTypes:=#[t,t]})
  (e:TypeId) (i:TypeInfo) (z:Value) (size bytes:Nat) (ht:P.underlying t=some (.slice e)) (hi:P.info? e=some i) (hz:i.zero=some z)
  (hsize:i.size=size) (hby:i.bytes=bytes) (hzs:z.cells.size=size) (hsz:0 < size)
  (a:Option Nat) (n c:Nat) (xs:List Value) (hs:A.eval s=sv a n c) (hown:SliceAt w e size a n c xs)
  (ad:Addr) (m cc:Nat) (news:List Value) (hx:A.eval x=M (some ad) m cc) (hl:news.length=m * size) (hnews:∀ j u,news[j]? =some u→w.cell? (ad.add j)=some u) (h1:∀ u∈news,u.oneCell'=true)
  (hm:0 < m) (hlen:n + m≤140737488355328) (hbytes:(n + m) * bytes≤140737488355328)
  (h:∀ g c' w',SliceAt w' e size (some g) (n + m) c' (xs ++ news)→Keeps a.toList w w'→(a=some g∨w.heap.size≤g)→K (A.put o.dst (M (some ⟨g,0,none⟩) (n + m) c')) w'):
  if Region.wanted o (yielded ops A.tmps)=true then Oper.wp P o A w K Q else E:=by
 have hw:Region.wanted o (yielded ops A.tmps)=true:=by simp [Region.wanted,hg]
 rw [if_pos hw];obtain ⟨g,c',w',hr,h2,h3,h4⟩:=run_append_sl (P:=P) w t o.type e i z size bytes ht hi hz hsize hby hzs hsz a n c xs hown ad m cc news hl hnews h1 hm hlen hbytes;unfold Oper.wp execOp;simp only [hop,resolve,invoke,builtin,Sem.run_bind,Sem.run_pure,Result.andThen_ok,List.map_toArray,List.map_cons,List.map_nil,hs,hx,hr];exact h g c' w' h2 h3 h4
theorem SliceAt.set {w:World} {e g n c:Nat} {xs:List Value} (h:SliceAt w e 1 (some g) n c xs) (i:Nat) (v:Value):SliceAt (w.setCell ⟨g,i,none⟩ v) e 1 (some g) n c (xs.set i v):=by
 obtain ⟨h1,cur,h2,h3,h4,h5,h6⟩:=h;refine ⟨by simpa using h1,_,heap_setCell_same w g i _ e v h2,h3,h4,by simpa using h5,?_⟩;subst h6;simp [List.take_set]
end Go.Proofs.YtjnlkjlbejelgaaGreat
