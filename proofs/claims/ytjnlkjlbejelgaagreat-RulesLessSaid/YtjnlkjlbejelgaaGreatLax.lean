/- Part 24 of the proof. No condition: every lemma says its own. -/
import Derived.Test.YtjnlkjlbejelgaaGreatLas
import Derived.Test.YtjnlkjlbejelgaaGreatLaw
namespace Go.Proofs.YtjnlkjlbejelgaaGreat
open Go.RowKit
open Go.Value renaming int→H,slice→M,bool→F
open Go.IntKind renaming i64→J
set_option maxRecDepth 100000
set_option maxHeartbeats 16000000
theorem run_append_old {P:Program} (w:World) (t ty e:TypeId) (i:TypeInfo) (z:Value) (size bytes:Nat) (ht:P.underlying t=some (.slice e)) (hi:P.info? e=some i) (hz:i.zero=some z)
  (hsize:i.size=size) (hby:i.bytes=bytes) (hzs:z.cells.size=size) (hsz:0 < size)
  (a:Option Nat) (n c:Nat) (xs:List Value) (hown:SliceAt w e size a n c xs)
  (ad:Addr) (m cc:Nat) (news:List Value) (hl:news.length=m * size) (hnews:∀ j u,news[j]? =some u→w.cell? (ad.add j)=some u) (h1:∀ u∈news,u.oneCell'=true)
  (hm:0 < m) (hlen:n + m≤140737488355328) (hbytes:(n + m) * bytes≤140737488355328):
  ∃ g c' w',(Builtin.append_ #[t,t] ty #[sv a n c,M (some ad) m cc]).run P w=.ok (M (some ⟨g,0,none⟩) (n + m) c') w'∧SliceAt w' e size (some g) (n + m) c' (xs ++ news)∧SliceAt w' e size a n c xs∧Keeps a.toList w w'∧(a=some g∨w.heap.size≤g):=by
 obtain ⟨g,c',w',hr,h2,h3,h4⟩:=run_append_sl (P:=P) w t ty e i z size bytes ht hi hz hsize hby hzs hsz a n c xs hown ad m cc news hl hnews h1 hm hlen hbytes;refine ⟨g,c',w',hr,h2,?_,h3,h4⟩;subst hsize;subst hby
 cases a with
 | none=> obtain ⟨hx,rfl,rfl⟩:=hown;exact ⟨hx,rfl,rfl⟩
 | some g0=>
  obtain ⟨hx,cur,hg,hnc,hcm,hcs,htake⟩:=hown
  by_cases hroom:n + m≤c
  ·have hfit:n * i.size + news.length≤cur.size:=by rw [hl,hcs,←Nat.add_mul];exact Nat.mul_le_mul_right _ hroom
   have hr2:=run_append_room (P:=P) w t ty e i ht hi g0 n c cur hg ad m cc news hl hnews h1 hroom hfit;have he:=hr.symm.trans hr2
   cases he
   refine ⟨hx,_,setRow_heap w g cur _ e _ hg,hnc,hcm,?_,?_⟩
   ·simp only [List.size_toArray,List.length_append,List.length_take,List.length_drop,Array.length_toList];omega
   ·rw [htake,←hx,List.append_assoc];exact List.take_left
  ·have hown:SliceAt w e i.size (some g0) n c xs:=⟨hx,cur,hg,hnc,hcm,hcs,htake⟩;have holds:∀ j u,xs[j]? =some u→w.cell? ((⟨g0,0,none⟩:Addr).add j)=some u:=hown.owns.cells (g:=g0) rfl;have hr2:=run_append_grow (P:=P) w t ty e i z ht hi hz ⟨g0,0,none⟩ n c xs hx holds ad m cc news hl hnews (by omega) (by unfold maxLen at hcm;omega) (growslice_fits (by omega) hbytes);have he:=hr.symm.trans hr2
   cases he
   exact hown.keep (((Keeps.refl [] w).drew).alloc _) (by simp)
theorem oper_append_old {P:Program} {o:Oper} {A:Act} {w:World} {K:Act→World→Prop} {Q:Exit→Act→World→Prop}
  (s x:Operand) (t:TypeId) (hop:o.op=Op.call {callee:=Callee.builtin Builtin.append,args:=#[s,x],argTypes:=#[t,t]})
  (e:TypeId) (i:TypeInfo) (z:Value) (size bytes:Nat) (ht:P.underlying t=some (.slice e)) (hi:P.info? e=some i) (hz:i.zero=some z)
  (hsize:i.size=size) (hby:i.bytes=bytes) (hzs:z.cells.size=size) (hsz:0 < size)
  (a:Option Nat) (n c:Nat) (xs:List Value) (hs:A.eval s=sv a n c) (hown:SliceAt w e size a n c xs)
  (ad:Addr) (m cc:Nat) (news:List Value) (hx:A.eval x=M (some ad) m cc) (hl:news.length=m * size) (hnews:∀ j u,news[j]? =some u→w.cell? (ad.add j)=some u) (h1:∀ u∈news,u.oneCell'=true)
  (hm:0 < m) (hlen:n + m≤140737488355328) (hbytes:(n + m) * bytes≤140737488355328)
  (h:∀ g c' w',SliceAt w' e size (some g) (n + m) c' (xs ++ news)→SliceAt w' e size a n c xs→Keeps a.toList w w'→(a=some g∨w.heap.size≤g)→K (A.put o.dst (M (some ⟨g,0,none⟩) (n + m) c')) w'):
  Oper.wp P o A w K Q:=by
 obtain ⟨g,c',w',hr,h2,h3,h4,h5⟩:=run_append_old (P:=P) w t o.type e i z size bytes ht hi hz hsize hby hzs hsz a n c xs hown ad m cc news hl hnews h1 hm hlen hbytes;unfold Oper.wp execOp;simp only [hop,resolve,invoke,builtin,Sem.run_bind,Sem.run_pure,Result.andThen_ok,List.map_toArray,List.map_cons,List.map_nil,hs,hx,hr];exact h g c' w' h2 h3 h4 h5
theorem SliceAt.cap_eq {w:World} {e g n c n' c':Nat} {xs ys:List Value} (h:SliceAt w e 1 (some g) n c xs) (k:SliceAt w e 1 (some g) n' c' ys):c=c':=by
 obtain ⟨_,cur,h1,_,_,h2,_⟩:=h;obtain ⟨_,cur',k1,_,_,k2,_⟩:=k;rw [h1] at k1
 cases k1
 omega
theorem SliceAt.front {w:World} {e g n m c:Nat} {xs ys:List Value} (h:SliceAt w e 1 (some g) (n + m) c (xs ++ ys)) (hx:xs.length=n):SliceAt w e 1 (some g) n c xs:=by
 obtain ⟨h0,cur,h1,h2,h3,h4,h5⟩:=h;refine ⟨by omega,cur,h1,by omega,h3,h4,?_⟩;have h6:=congrArg (List.take n) h5;rw [List.take_take,List.take_left' hx] at h6;rw [Nat.mul_one,←h6]
 congr 1
 omega
theorem intClone_any (pa:Option Addr) (pc:Nat) (xs:List Int) (w:World) (h:IntsIn w pa xs) (hnil:pa=none→xs=[]) (hb:xs.length≤1000000):
  Calls Tryz.prog 63 #[M pa xs.length pc] w fun e w'=> ∃ r:PRow,e=.returned r.v∧r.path=xs∧IntsIn w' r.pa xs∧r.path.length≤r.pc∧Keeps [] w w'∧∀ ad,r.pa=some ad→w.heap.size≤ad.block∧ad.block < w'.heap.size:=by
 obtain ⟨i0,hi,hz0,hz1,hz2⟩:=info_parts infoInt;have Hi:=gi hi;have Hz0:=gi hz0;have Hz1:=gi hz1;have Hz2:=gi hz2;have HS:=gi h;clear hi hz0 hz1 hz2 h;have hnl:∀ (w:World) (a:Option Addr) (n c n' c':Nat),(binOp .eql 22 (M a n c) (M none n' c')).run Tryz.prog w=.ok (F a.isNone) w:=fun w a n c n' c'=> Lib.run_eql_slice_nil w _ _ a n c n' c' Tryz.underlying22
 cases pa with
 | none=>
  have h0:=hnil rfl;subst h0;clear hnil;go_enter Tryz.func63,Tryz.ntmps63
  go_wp2;go_ret;exact ⟨⟨none,0,[]⟩,rfl,rfl,fun h=> by simp at h,Nat.le_refl _,Keeps.refl _ _,fun _ h=> by cases h⟩
 | some a=>
  clear hnil;go_enter Tryz.func63,Tryz.ntmps63
  go_wp2_with (at_builtin;refine wpList_append_any rfl (.tmp 5) (.tmp 6) 22 rfl 3 i0 _ 1 8 Tryz.underlying22 Hi.o Hz0.o Hz1.o Hz2.o rfl (by decide) (some w.heap.size) 0 0 [] rfl (SliceAt.empty w _ _) (some a) xs.length pc (xs.map (H J)) rfl (by simp) ?hns (ints_one xs) (by omega) (by omega) ?hk)
  case hns=>
   have hh:=(HS.o.keepS (Keeps.a1 w (.cells #[] 3)) (fun _ _=> by simp)).src
   simpa using hh
  case hk=>
   intro a' c' w' hsl hk ha;have HSL:=gi hsl;have HK:=gi (show Keeps [] w w' from ((Keeps.refl [] w).alloc _).after hk (by intro x hx;simp at hx;exact .inr (by omega)));have HA:=gi (show ∀ g,a'=some g→w.heap.size≤g∧g < w'.heap.size by
    intro g hg;subst hg;refine ⟨?_,hsl.lt⟩
    rcases ha with h | ⟨g',h,h2⟩
    ·cases h;exact Nat.le_refl _
    ·cases h;have:w.heap.size≤(w.alloc (.cells #[] 3)).heap.size:=by simp
     omega)
   have HC:=gi (show xs.length≤c' by
    cases a' with
    | none=> obtain ⟨_,h2,h3⟩:=hsl;omega
    | some g=> obtain ⟨_,_,_,h2,_⟩:=hsl;omega)
   clear hsl hk ha;go_wp2;go_ret;refine ⟨⟨a'.map fun g=> ⟨g,0,none⟩,c',xs⟩,by simp [PRow.v,sv],rfl,?_,HC.o,HK.o,fun ad had=> ?_⟩
   ·have h1:=HSL.o;exact h1.to_in
   ·cases a' with
    | none=> cases had
    | some g=> cases had;exact HA.o g rfl
theorem PathsAt.keepS {S:List Nat} {w w':World} {a:Option Nat} {c:Nat} {rows:List PRow} (h:PathsAt w a c rows) (k:Keeps S w w') (ha:∀ g,a=some g→g ∉ S) (hn:∀ r∈rows,∀ ad,r.pa=some ad→ad.block ∉ S):PathsAt w' a c rows:=
 ⟨h.sl.keep k ha,fun r hr=> ⟨(h.ints r hr).1.keepS k (fun ad had=> hn r hr ad had),(h.ints r hr).2.1,fun ad had=> ⟨Nat.lt_of_lt_of_le ((h.ints r hr).2.2 ad had).1 k.size,((h.ints r hr).2.2 ad had).2⟩⟩⟩
theorem pathsTs_length (i:Int) (l:List Tree):(pathsTs i l).length=sizeTs l:=by
 induction l generalizing i with
 | nil=> rfl
 | cons x r ih=> simp only [pathsTs,sizeTs,List.length_append,List.length_map,(paths_length x).1,ih]
def WalkP (P:Nat) (pa:Option Nat) (pc:Nat) (path:List Int) (a:Option Nat) (rows:List PRow) (L:List (List Int)) (w:World) (w':World):Prop:=
 ∃ (a':Option Nat) (c':Nat) (new:List PRow),Keeps (P::(a.toList ++ pa.toList)) w w'∧w'.heap[P]? =some (.cells #[sv a' (rows ++ new).length c'] 30 (0,0))∧PathsAt w' a' c' (rows ++ new)∧
  new.map PRow.path=L.map (path ++ ·)∧(∀ r∈new,∀ ad,r.pa=some ad→w.heap.size≤ad.block)∧(a'=a∨∃ g,a'=some g∧w.heap.size≤g)∧SliceAt w' 3 1 pa path.length pc (path.map (H J))
structure WalkS (n0 P C b:Nat) (bl:List Nat) (pa a:Option Nat) (rows:List PRow) (w:World):Prop where
 hP:P < n0
 hC:C < n0∧C≠P
 hb:b < n0∧b≠P
 hm:∀ x∈bl,x < n0∧x≠P
 hw:n0≤w.heap.size
 ha:∀ g,a=some g→n0≤g
 hpa:∀ g,pa=some g→n0≤g∧g < w.heap.size
 hap:∀ g,a=some g→pa≠some g
 hr:∀ r∈rows,∀ ad,r.pa=some ad→n0≤ad.block∧some ad.block≠pa
theorem WalkP.enter {n0 P C b b':Nat} {bl bl':List Nat} {pa a a2:Option Nat} {c2 g:Nat} {rows new:List PRow} {w wr V1 V2:World} (hw:WalkS n0 P C b bl pa a rows w) (k:Keeps (P::(a.toList ++ pa.toList)) w wr) (hpt:PathsAt wr a2 c2 (rows ++ new)) (hf:∀ r∈new,∀ ad,r.pa=some ad→w.heap.size≤ad.block) (ha2:a2=a∨∃ g,a2=some g∧w.heap.size≤g)
  (k1:Keeps [] wr V1) (k3:Keeps pa.toList V1 V2) (hg:pa=some g∨V1.heap.size≤g) (hlt:g < V2.heap.size) (hb:b' < n0∧b'≠P) (hm:∀ x∈bl',x < n0∧x≠P):WalkS n0 P C b' bl' (some g) a2 (rows ++ new) V2∧PathsAt V2 a2 c2 (rows ++ new):=by
 have hs:=k.size;have hs1:=k1.size;have hs3:=k3.size;have hwn:=hw.hw;have hal:∀ x,a2=some x→x < wr.heap.size:=fun x hx=> by subst hx;exact hpt.sl.lt
 have hap:∀ x,a2=some x→pa≠some x:=fun x hx hp=> by
  rcases ha2 with h | ⟨y,h,hy⟩
  ·exact hw.hap x (h ▸ hx) hp
  ·rw [hx] at h;cases h;have:=(hw.hpa x hp).2;omega
 have hr:∀ r∈rows ++ new,∀ ad,r.pa=some ad→n0≤ad.block∧some ad.block≠pa∧ad.block < wr.heap.size:=fun r hr ad had=> by
  have h1:=((hpt.ints r hr).2.2 ad had).1
  rcases List.mem_append.1 hr with h | h
  ·exact ⟨(hw.hr r h ad had).1,(hw.hr r h ad had).2,h1⟩
  ·have h2:=hf r h ad had;exact ⟨by omega,fun h3=> by have:=(hw.hpa _ h3.symm).2;omega,h1⟩
 have hpn:∀ x,x∈pa.toList→pa=some x:=fun x hx=> by simpa using hx
 refine ⟨⟨hw.hP,hw.hC,hb,hm,by omega,fun x hx=> ?_,fun x hx=> ?_,fun x hx hp=> ?_,fun r hm ad had=> ⟨(hr r hm ad had).1,fun h=> ?_⟩⟩,(hpt.keep k1).keepS k3 (fun x hx hm=> hap x hx (hpn x hm)) (fun r hm ad had hx=> (hr r hm ad had).2.1 (hpn _ hx).symm)⟩
 ·rcases ha2 with h | ⟨y,h,hy⟩
  ·exact hw.ha x (h ▸ hx)
  ·rw [hx] at h;cases h;omega
 ·cases hx
  refine ⟨?_,hlt⟩
  rcases hg with h | h
  ·exact (hw.hpa g h).1
  ·omega
 ·cases hp
  rcases hg with h | h
  ·exact hap g hx h
  ·have:=hal g hx;omega
 ·rcases hg with h1 | h1
  ·exact (hr r hm ad had).2.1 (by rw [h,h1])
  ·have:=(hr r hm ad had).2.2;cases h;omega
theorem WalkP.leave {n0 P C b:Nat} {bl:List Nat} {pa a a2:Option Nat} {pc c3 g:Nat} {path:List Int} {i:Int} {L Lk:List (List Int)} {rows new:List PRow} {w wr V1 V2 w':World} (hw:WalkS n0 P C b bl pa a rows w) (k:Keeps (P::(a.toList ++ pa.toList)) w wr) (hf:∀ r∈new,∀ ad,r.pa=some ad→w.heap.size≤ad.block) (ha2:a2=a∨∃ g,a2=some g∧w.heap.size≤g)
  (k1:Keeps [] wr V1) (k3:Keeps pa.toList V1 V2) (hg:pa=some g∨V1.heap.size≤g) (hold:SliceAt V2 3 1 pa path.length pc (path.map (H J))) (hnew:SliceAt V2 3 1 (some g) (path.length + 1) c3 (path.map (H J) ++ [H J i])) (hn:new.map PRow.path=L.map (path ++ ·))
  (h:WalkP P (some g) c3 (path ++ [i]) a2 (rows ++ new) Lk V2 w'):WalkP P pa pc path a rows (L ++ Lk.map (i::·)) w w':=by
 obtain ⟨a',c',new',k4,hp4,hpt4,hn4,hf4,ha4,hs4⟩:=h;have hs:=k.size;have hs1:=k1.size;have hs3:=k3.size;have kk:Keeps (P::(a.toList ++ pa.toList)) w V2:=(k.after k1 (by simp)).after k3 (fun x hx=> .inl (by simp at hx ⊢;exact .inr (.inr hx)));refine ⟨a',c',new ++ new',kk.after k4 ?_,by rw [←List.append_assoc];exact hp4,by rw [←List.append_assoc];exact hpt4,?_,?_,?_,?_⟩
 ·intro x hx;simp only [List.mem_cons,List.mem_append,Option.mem_toList] at hx ⊢
  rcases hx with h | h | h
  ·exact .inl (.inl h)
  ·rcases ha2 with h2 | ⟨y,h2,hy⟩
   ·exact .inl (.inr (.inl (h2 ▸ h)))
   ·rw [h] at h2;cases h2;exact .inr hy
  ·cases h
   rcases hg with h2 | h2
   ·exact .inl (.inr (.inr h2))
   ·right;omega
 ·rw [List.map_append,hn,hn4,List.map_append,List.map_map]
  congr 1
  apply List.map_congr_left
  intro q _
  simp
 ·intro r hr ad had
  rcases List.mem_append.1 hr with h | h
  ·exact hf r h ad had
  ·have:=hf4 r h ad had;omega
 ·rcases ha4 with h | ⟨y,h,hy⟩
  ·rw [h];exact ha2
  ·exact .inr ⟨y,h,by omega⟩
 ·cases pa with
  | none=> exact ⟨hold.1,hold.2⟩
  | some p=>
   by_cases hpg:g=p
   ·subst hpg;have hc:=hold.cap_eq hnew;subst hc;rw [List.length_append,List.map_append] at hs4;exact hs4.front (by simp)
   ·have hp:=hw.hpa p rfl;have hP:=hw.hP;refine hold.keep k4 (fun x hx hm=> ?_)
    cases hx
    simp only [List.mem_cons,List.mem_append,Option.mem_toList] at hm
    rcases hm with h | h | h
    ·omega
    ·rcases ha2 with h2 | ⟨y,h2,hy⟩
     ·exact hw.hap p (h2 ▸ h) rfl
     ·rw [h] at h2;cases h2;omega
    ·cases h;exact hpg rfl
theorem WalkP.first {n0 P C b:Nat} {bl:List Nat} {pa a:Option Nat} {pc c c1 g:Nat} {path:List Int} {rows:List PRow} {r:PRow} {w w2 w3 w4:World} (hw:WalkS n0 P C b bl pa a rows w) (hpt:PathsAt w a c rows) (hP:w.heap[P]? =some (.cells #[sv a rows.length c] 30 (0,0))) (hsl:SliceAt w 3 1 pa path.length pc (path.map (H J)))
  (k2:Keeps [] w w2) (hrp:r.path=path) (hri:IntsIn w2 r.pa path) (hrl:r.path.length≤r.pc) (hrf:∀ ad,r.pa=some ad→w.heap.size≤ad.block∧ad.block < w2.heap.size) (k3:Keeps [] w2 w3) (hs4:SliceAt w4 22 1 (some g) (rows.length + 1) c1 (rows.map PRow.v ++ [r.v])) (k4:Keeps a.toList w3 w4) (hg:a=some g∨w3.heap.size≤g):
  (w4.cell? ⟨P,0,none⟩=some (sv a rows.length c)∧w4.frozen? ⟨P,0,none⟩=false)∧WalkP P pa pc path a rows [[]] w (w4.setCell ⟨P,0,none⟩ (sv (some g) (rows.length + 1) c1)):=by
 have hs2:=k2.size;have hs3:=k3.size;have hwn:=hw.hw;have hPn:=hw.hP;have hPa:P ∉ a.toList:=fun h=> by have:=hw.ha P (by simpa using h);omega
 have hP4:=k4.heap ((k2.trans k3).h hP) hPa;have hgP:g≠P:=fun h=> by
  rcases hg with h1 | h1
  ·have:=hw.ha g h1;omega
  ·omega
 have kS:Keeps [P] w4 (w4.setCell ⟨P,0,none⟩ (sv (some g) (rows.length + 1) c1)):=(Keeps.refl [P] w4).setCell (p:=⟨P,0,none⟩) (.inl (by simp)) _;have hpush:=(hpt.keep (k2.trans k3)).push (r:=r) (c':=c1) (g:=g) k4 hg hs4 (by
   rw [hrp];refine (hri.keepS k3 (fun _ _=> by simp)).keepS k4 (fun ad had hm=> ?_);have h1:=(hrf ad had).1;have h2:a=some ad.block:=by simpa using hm
   subst h2
   have:=hpt.sl.lt
   omega) hrl (fun ad had=> ⟨by have:=(hrf ad had).2;omega,fun h=> by
    have h1:=(hrf ad had).1;subst h
    have:=hpt.sl.lt
    omega⟩)
 have kA:Keeps (P::a.toList) w w4:=((k2.trans k3).mono (S':=P::a.toList) (by simp)).after k4 (fun x hx=> .inl (List.mem_cons_of_mem _ hx));refine ⟨⟨by simp [World.cell?,hP4],by simp [World.frozen?,hP4]⟩,some g,c1,[r],?_,?_,?_,by simp [hrp],fun x hx ad had=> by simp at hx;subst hx;exact (hrf ad had).1,?_,?_⟩
 ·exact (kA.trans (kS.mono (by simp))).mono (by intro x hx;simp at hx ⊢;rcases hx with h | h;exact .inl (.inl h);exact .inl (.inr (.inl h)))
 ·rw [List.length_append];exact heap_setCell_same _ P 0 _ _ _ hP4
 ·refine hpush.keepS kS (fun x hx=> by cases hx;simpa using hgP) (fun x hx ad had=> ?_)
  simp
  rcases List.mem_append.1 hx with h | h
  ·have:=(hw.hr x h ad had).1;omega
  ·simp at h;subst h;have:=(hrf ad had).1;omega
 ·rcases hg with h | h
  ·exact .inl h.symm
  ·exact .inr ⟨g,rfl,by omega⟩
 ·cases pa with
  | none=> exact ⟨hsl.1,hsl.2⟩
  | some p=>
   have hp:=hw.hpa p rfl;refine ((hsl.keep (k2.trans k3) (by simp)).keep k4 (fun x hx hm=> ?_)).keep kS (fun x hx=> ?_)
   ·cases hx;exact hw.hap p (by simpa using hm) rfl
   ·cases hx;simp;omega
theorem pathsW_any (m:MRe):∀ (n0 P C b o:Nat) (pa:Option Nat) (pc:Nat) (path:List Int) (a:Option Nat) (c:Nat) (rows:List PRow) (w:World),At8 w b o m→m.OK w→w.cell? ⟨C,0,none⟩=some (.func (Fn.func 102) #[] #[.pointer (some ⟨P,0,none⟩),.pointer (some ⟨C,0,none⟩)])→
  w.heap[P]? =some (.cells #[sv a rows.length c] 30 (0,0))→PathsAt w a c rows→SliceAt w 3 1 pa path.length pc (path.map (H J))→WalkS n0 P C b m.blocks pa a rows w→rows.length + sizeT m.tree≤1000000→path.length + m.tree.bulk≤1000000→
  Calls Tryz.prog 102 #[.pointer (some ⟨b,o,none⟩),sv pa path.length pc,.pointer (some ⟨P,0,none⟩),.pointer (some ⟨C,0,none⟩)] w fun e w'=> e=.returned (.tuple #[])∧WalkP P pa pc path a rows (pathsT m.tree) w w':=by
 obtain ⟨i0,hi0,hz0,hz1,hz2⟩:=info_parts infoInt;have Hi:=gi hi0;have Hz0:=gi hz0;have Hz1:=gi hz1;have Hz2:=gi hz2;clear hi0 hz0 hz1 hz2;obtain ⟨j0,hi0,hz0,hz1,hz2⟩:=info_parts infoInts;have Ji:=gi hi0;have Jz0:=gi hz0;have Jz1:=gi hz1;have Jz2:=gi hz2;clear hi0 hz0 hz1 hz2
 induction m using MRe.induct with
 | h op sa sc set ka kc kids mn mx mode n neg ih=>
  intro n0 P C b o pa pc path a c rows w h1 k1 hc hP hpt hsl hws hsz hbk;have a2:=h1.node.c2;have hcap:=k1.nodes.cap;have hle:=k1.nodes.le;unfold maxLen at hcap;obtain ⟨R,hR⟩:∃ R,R=pathsT (MRe.tree (.node op sa sc set ka kc kids mn mx mode n neg)):=⟨_,rfl⟩;rw [←hR];have HR:=gi (show R=[]::pathsTs 0 (MRe.trees kids) by rw [hR];simp only [MRe.tree,pathsT]);have HSZ:=gi (show rows.length + (1 + sizeTs (MRe.trees kids))≤1000000 by simpa only [MRe.tree,sizeT] using hsz);have HBK:=gi (show path.length + 1 + Tree.bulks (MRe.trees kids)≤1000000 by simp only [MRe.tree,Tree.bulk] at hbk;omega);have HK1:=gi k1.kids;have HKB:=gi (show ∀ x∈blockIf kids.length ka ++ MRe.blocksL kids,x < n0∧x≠P from fun x hx=> hws.hm x (by simp only [MRe.blocks,List.mem_append] at hx ⊢;exact .inr hx));have HW:=gi hws;have HI:=gi ih;have HPT:=gi hpt;have HSL:=gi hsl;have HPH:=gi hP;have HCL:=gi (fun (W:World) (h:Keeps [] w W)=> intClone_any (pa.map fun g=> ⟨g,0,none⟩) pc path W (hsl.to_in.keepS h (fun _ _=> by simp)) (fun h=> by
   cases pa with
   | none=> have:=hsl.2.1;exact List.eq_nil_of_length_eq_zero this
   | some g=> cases h) (by omega))
  have p0:w.cell? ⟨P,0,none⟩=some (sv a rows.length c):=by simp [World.cell?,hP]
  clear ih h1 k1 hpt hsl hws hsz hbk hP hR;simp only [sv] at p0 ⊢;go_enter Tryz.func102,Tryz.ntmps102
  go_upto_region 0 with fail
  go_cut [] (fun wx=> ∃ W:World,W=wx∧WalkP P pa pc path a rows [[]] w W)
  case first=>
   have K0:=gi ((Keeps.refl [] w).drew);refine wp_region_held_drew (S:=fun _=> True) (by kernel_rfl) trivial (fun hHeld=> ?_);refine tk 1 ?_;refine j7 0 2 (fun K hK=> ?_) fun K hK=> ?_
   ·go_simp;refine hK.out _ _ (trivial) (fun hHeld=> ?_);clear hK K;try go_frame
    refine j6 2 fun K hK=> ?_;go_simp;refine Calls.mono (HCL.o _ K0.o) ?_;rintro ee w2 ⟨r,rfl,hrp,hri,hrl,hk2,hrf⟩;have K2:=gi (K0.o.trans hk2);have HRR:=gi (And.intro hrp (And.intro hri (And.intro hrl hrf)));clear hrp hri hrl hk2 hrf;simp only [PRow.v];refine hK.out _ _ (trivial) (fun hHeld=> ?_);clear hK K;try go_frame
    refine j6 3 fun K hK=> ?_;go_simp;have K3:=gi (Keeps.a1 w2 (.cells #[M r.pa r.path.length r.pc] 22));refine hK.out _ _ (trivial) (fun hHeld=> ?_);clear hK K;try go_frame
    refine j6 4 fun K hK=> ?_;refine oper_append_old (.tmp 7) (.tmp 10) 30 rfl 22 j0 _ 1 24 Tryz.underlying30 Ji.o Jz0.o Jz1.o Jz2.o rfl (by decide) a rows.length c _ rfl (HPT.o.sl.keep (K2.o.trans K3.o) (by simp)) ⟨w2.heap.size,0,none⟩ 1 1 [r.v] rfl rfl (news_row w2 [r.v] 22) (by intro u hu;simp at hu;subst hu;rfl) (by decide) (by have:=HSZ.o;omega) (by have:=HSZ.o;omega) ?_;intro g c1 w4 hs4 _ hk4 hg4;obtain ⟨⟨p4,f4⟩,hfi⟩:=WalkP.first HW.o HPT.o HPH.o HSL.o K2.o HRR.o.1 HRR.o.2.1 HRR.o.2.2.1 (fun ad had=> ⟨by have:=(HRR.o.2.2.2 ad had).1;simpa using this,(HRR.o.2.2.2 ad had).2⟩) K3.o hs4 hk4 hg4;have HFI:=gi hfi;simp only [sv] at p4;clear hs4 hk4 hg4 hfi;refine hK.out _ _ (trivial) (fun hHeld=> ?_);clear hK K;try go_frame
    refine j6 5 fun K hK=> ?_;go_simp;refine hK.out _ _ (trivial) (fun hHeld=> ?_);clear hK K;try go_frame
    refine wd ?_;go_wp2;go_meet;exact ⟨_,rfl,HFI.o⟩
   ·go_simp;refine Calls.mono (HCL.o _ K0.o) ?_;rintro ee w2 ⟨r,rfl,hrp,hri,hrl,hk2,hrf⟩;have K2:=gi (K0.o.trans hk2);have HRR:=gi (And.intro hrp (And.intro hri (And.intro hrl hrf)));clear hrp hri hrl hk2 hrf;simp only [PRow.v];have p2:=K2.o.c p0;refine hK.out _ _ (trivial) (fun hHeld=> ?_);clear hK K;try go_frame
    refine j7 0 3 (fun K hK=> ?_) fun K hK=> ?_
    ·go_simp;refine hK.out _ _ (trivial) (fun hHeld=> ?_);clear hK K;try go_frame
     clear p2;refine j6 3 fun K hK=> ?_;go_simp;have K3:=gi (Keeps.a1 w2 (.cells #[M r.pa r.path.length r.pc] 22));refine hK.out _ _ (trivial) (fun hHeld=> ?_);clear hK K;try go_frame
     refine j6 4 fun K hK=> ?_;refine oper_append_old (.tmp 7) (.tmp 10) 30 rfl 22 j0 _ 1 24 Tryz.underlying30 Ji.o Jz0.o Jz1.o Jz2.o rfl (by decide) a rows.length c _ rfl (HPT.o.sl.keep (K2.o.trans K3.o) (by simp)) ⟨w2.heap.size,0,none⟩ 1 1 [r.v] rfl rfl (news_row w2 [r.v] 22) (by intro u hu;simp at hu;subst hu;rfl) (by decide) (by have:=HSZ.o;omega) (by have:=HSZ.o;omega) ?_;intro g c1 w4 hs4 _ hk4 hg4;obtain ⟨⟨p4,f4⟩,hfi⟩:=WalkP.first HW.o HPT.o HPH.o HSL.o K2.o HRR.o.1 HRR.o.2.1 HRR.o.2.2.1 (fun ad had=> ⟨by have:=(HRR.o.2.2.2 ad had).1;simpa using this,(HRR.o.2.2.2 ad had).2⟩) K3.o hs4 hk4 hg4;have HFI:=gi hfi;simp only [sv] at p4;clear hs4 hk4 hg4 hfi;refine hK.out _ _ (trivial) (fun hHeld=> ?_);clear hK K;try go_frame
     refine j6 5 fun K hK=> ?_;go_simp;refine hK.out _ _ (trivial) (fun hHeld=> ?_);clear hK K;try go_frame
     refine wd ?_;go_wp2;go_meet;exact ⟨_,rfl,HFI.o⟩
    ·go_simp;have K3:=gi (Keeps.a1 w2 (.cells #[M r.pa r.path.length r.pc] 22));have p3:=K3.o.c p2;refine hK.out _ _ (trivial) (fun hHeld=> ?_);clear hK K;try go_frame
     refine j6 0 fun K hK=> ?_;go_simp;refine hK.out _ _ (trivial) (fun hHeld=> ?_);clear hK K;try go_frame
     clear p2 p3;refine j6 4 fun K hK=> ?_;refine oper_append_old (.tmp 7) (.tmp 10) 30 rfl 22 j0 _ 1 24 Tryz.underlying30 Ji.o Jz0.o Jz1.o Jz2.o rfl (by decide) a rows.length c _ rfl (HPT.o.sl.keep (K2.o.trans K3.o) (by simp)) ⟨w2.heap.size,0,none⟩ 1 1 [r.v] rfl rfl (news_row w2 [r.v] 22) (by intro u hu;simp at hu;subst hu;rfl) (by decide) (by have:=HSZ.o;omega) (by have:=HSZ.o;omega) ?_;intro g c1 w4 hs4 _ hk4 hg4;obtain ⟨⟨p4,f4⟩,hfi⟩:=WalkP.first HW.o HPT.o HPH.o HSL.o K2.o HRR.o.1 HRR.o.2.1 HRR.o.2.2.1 (fun ad had=> ⟨by have:=(HRR.o.2.2.2 ad had).1;simpa using this,(HRR.o.2.2.2 ad had).2⟩) K3.o hs4 hk4 hg4;have HFI:=gi hfi;simp only [sv] at p4;clear hs4 hk4 hg4 hfi;refine hK.out _ _ (trivial) (fun hHeld=> ?_);clear hK K;try go_frame
     refine j6 5 fun K hK=> ?_;go_simp;refine hK.out _ _ (trivial) (fun hHeld=> ?_);clear hK K;try go_frame
     refine wd ?_;go_wp2;go_meet;exact ⟨_,rfl,HFI.o⟩
  case rest=>
   obtain ⟨X,rfl,hX⟩:=hcut;have HX:=gi hX;obtain ⟨_,_,_,kX,_⟩:=hX;have hnC:C ∉ P::(a.toList ++ pa.toList):=fun h=> by
    have h1:=HW.o.hC;simp only [List.mem_cons,List.mem_append,Option.mem_toList] at h
    rcases h with h | h | h
    ·exact h1.2 h
    ·have:=HW.o.ha C h;omega
    ·have:=(HW.o.hpa C h).1;omega
   have hnb:∀ x,x < n0→x≠P→x ∉ P::(a.toList ++ pa.toList):=fun x hx hxP h=> by
    simp only [List.mem_cons,List.mem_append,Option.mem_toList] at h
    rcases h with h | h | h
    ·exact hxP h
    ·have:=HW.o.ha x h;omega
    ·have:=(HW.o.hpa x h).1;omega
   have HNB:=gi hnb;have HNC:=gi hnC;have HCC:=gi hc;have HA2:=gi a2;have a2X:=kX.cell a2 (hnb b HW.o.hb.1 HW.o.hb.2);clear kX hnC hnb hc a2 p0 HCL HPT HSL HPH;go_wp2
   go_loopw [17] (fun i wr=> ∃ k:Nat,k≤kids.length∧i=H J k∧WalkP P pa pc path a rows ([]::pathsTs 0 ((MRe.trees kids).take k)) w wr) (fun i _=> kids.length - (intOf i).toNat)
   case atStart=> exact ⟨0,Nat.zero_le _,rfl,by rw [List.take_zero];exact HX.o⟩
   case round=>
    obtain ⟨k,hk,rfl,hwp⟩:=hrel;have HWP:=gi hwp;clear hwp
    by_cases hlt:k < kids.length
    ·obtain ⟨aa,cc,new,hkw,hpw,hptw,hnw,hfw,haw,hsw⟩:=HWP.o;have hkin:=HK1.o.keepS hkw (fun q hq=> HNB.o q (HKB.o q hq).1 (HKB.o q hq).2);obtain ⟨b',off,rfl,hb,hx⟩:=hkin.nodes.kid (by omega);have x1:=hkw.cell HCC.o HNC.o;have x2:=hkw.cell HA2.o (HNB.o b HW.o.hb.1 HW.o.hb.2);have hc1:=hkin.all kids[k] (List.getElem_mem hlt);have hblk:∀ y∈blockIf kids.length (some ⟨b',off,none⟩) ++ MRe.blocksL kids,y < n0∧y≠P:=HKB.o;have hb':b' < n0∧b'≠P:=hblk b' (List.mem_append_left _ (by unfold blockIf;rw [if_neg (by omega)];simp));have hm':∀ y∈kids[k].blocks,y < n0∧y≠P:=fun y hy=> hblk y (List.mem_append_right _ (MRe.mem_blocksL (List.getElem_mem hlt) hy));have hlt':k < (MRe.trees kids).length:=by rw [MRe.trees_length];exact hlt
     have hn:=pathsTs_take (MRe.trees kids) 0 k hlt';rw [trees_getElem kids k hlt,Int.zero_add] at hn;have hst:=sizeTs_take hlt';have hsl':=sizeTs_le (MRe.trees kids) (k + 1);rw [trees_getElem kids k hlt] at hst;have hbm:kids[k].tree∈MRe.trees kids:=by rw [MRe.trees_eq];exact List.mem_map_of_mem (List.getElem_mem hlt)
     have hbl:=Tree.bulks_mem hbm;have hnl:new.length=1 + sizeTs ((MRe.trees kids).take k):=by
      have h1:=congrArg List.length hnw;simp only [List.length_map,List.length_cons] at h1;have h2:=pathsTs_length 0 ((MRe.trees kids).take k);omega
     have HSZK:=gi (show (rows ++ new).length + sizeT kids[k].tree≤1000000 by have:=HSZ.o;rw [List.length_append];omega);have HBKK:=gi (show path.length + 1 + kids[k].tree.bulk≤1000000 by have:=HBK.o;omega);have HCALL:=gi (fun (g pc':Nat) (W:World) (h:Keeps [] wr W) (W2:World) (h2:Keeps pa.toList W W2) (hs:WalkS n0 P C b' kids[k].blocks (some g) aa (rows ++ new) W2) (hpt:PathsAt W2 aa cc (rows ++ new)) (hsl:SliceAt W2 3 1 (some g) (path.length + 1) pc' (path.map (H J) ++ [H J (k:Int)]))=>
      HI.o kids[k] (List.getElem_mem hlt) n0 P C b' (off + k * 8) (some g) pc' (path ++ [(k:Int)]) aa cc (rows ++ new) W2 (((hx k hlt).keep h).keepS h2 (fun hm=> HNB.o b' hb'.1 hb'.2 (List.mem_cons_of_mem _ (List.mem_append_right _ hm)))) ((hc1.keep h).keepS h2 (fun y hy hm=> HNB.o y (hm' y hy).1 (hm' y hy).2 (List.mem_cons_of_mem _ (List.mem_append_right _ hm)))) (h2.cell (h.c x1) (fun hm=> HNC.o (List.mem_cons_of_mem _ (List.mem_append_right _ hm)))) (h2.heap (h.h hpw) (fun hm=> by have:=(HW.o.hpa P (by simpa using hm)).1;have:=HW.o.hP;omega)) hpt (by rw [List.length_append,List.map_append];exact hsl) hs HSZK.o (by rw [List.length_append];exact HBKK.o))
     have HSW:=gi hsw;have HKW:=gi hkw;have HNW:=gi hnw;have HPTW:=gi hptw;have HFW:=gi hfw;have HAW:=gi haw;have HB':=gi hb';have HM':=gi hm';have HN:=gi hn;have hpl:path.length≤1000000:=by have:=HBK.o;omega
     clear hkw hpw hptw hnw hfw haw hsw hkin hb hx hc1 hblk hb' hm' hlt' hn hst hsl' hbm hbl hnl a2X;go_wp2;have K0:=gi ((Keeps.refl [] wr).drew);refine rg (S:=fun w'=> w'.cell? ⟨C,0,none⟩=some (.func (Fn.func 102) #[] #[.pointer (some ⟨P,0,none⟩),.pointer (some ⟨C,0,none⟩)])∧w'.cell? ⟨b,o + 2,none⟩=some (M (some ⟨b',off,none⟩) kids.length kc)) (fun _ k=> ⟨k.c x1,k.c x2⟩) fun kz hHeld=> ?_;refine tk 0 ?_;refine tk 1 ?_;refine tk 2 ?_;refine tk 3 ?_;refine tk 4 ?_;refine tk 5 ?_;refine tk 6 ?_;refine tk 7 ?_;refine tk 8 ?_;refine j6 9 fun K hK=> ?_;go_simp;have K1:=gi (K0.o.trans (Keeps.a1 wr.drew (.cells #[H J k] 3)));refine hK.out _ _ (kz.o _ K1.o) fun hHeld=> ?_;clear hK K;try go_frame
     refine j6 10 fun K hK=> ?_;refine oper_append_old (.tmp 27) (.tmp 29) 22 rfl 3 i0 _ 1 8 Tryz.underlying22 Hi.o Hz0.o Hz1.o Hz2.o rfl (by decide) pa path.length pc _ rfl (HSW.o.keep K1.o (by simp)) ⟨wr.drew.heap.size,0,none⟩ 1 1 [H J (k:Int)] rfl rfl (news_row wr.drew [H J (k:Int)] 3) (by intro u hu;simp at hu;subst hu;rfl) (by decide) (by omega) (by omega) ?_;intro g c3 w3 hs3 ho3 hk3 hg3;obtain ⟨hwS,hpt3⟩:=WalkP.enter HW.o HKW.o HPTW.o HFW.o HAW.o K1.o hk3 hg3 hs3.lt HB'.o HM'.o;have HCC3:=gi (HCALL.o g c3 _ K1.o w3 hk3 hwS hpt3 hs3);have HS3:=gi hs3;have HO3:=gi ho3;have HK3:=gi hk3;have HG3:=gi hg3;have y1:=hk3.cell (K1.o.c x1) (fun hm=> HNC.o (List.mem_cons_of_mem _ (List.mem_append_right _ hm)));have y2:=hk3.cell (K1.o.c x2) (fun hm=> HNB.o b HW.o.hb.1 HW.o.hb.2 (List.mem_cons_of_mem _ (List.mem_append_right _ hm)));clear hs3 ho3 hk3 hg3 hwS hpt3 HCALL;refine hK.out _ _ (⟨y1,y2⟩) (fun hHeld=> ?_);clear hK K;try go_frame
     refine j6 11 fun K hK=> ?_;go_simp
     go_at_call 102
     have hcc:=HCC3.o;rw [List.length_append] at hcc;simp only [sv,Option.map_some] at hcc;refine Calls.mono hcc ?_;rintro ee w5 ⟨rfl,h5⟩;have HLV:=gi (WalkP.leave HW.o HKW.o HFW.o HAW.o K1.o HK3.o HG3.o HO3.o HS3.o HNW.o h5);have z1:w5.cell? ⟨C,0,none⟩=some (.func (Fn.func 102) #[] #[.pointer (some ⟨P,0,none⟩),.pointer (some ⟨C,0,none⟩)]):=by
      obtain ⟨_,_,_,k5,_⟩:=HLV.o;exact k5.cell HCC.o HNC.o
     have z2:w5.cell? ⟨b,o + 2,none⟩=some (M (some ⟨b',off,none⟩) kids.length kc):=by
      obtain ⟨_,_,_,k5,_⟩:=HLV.o;exact k5.cell HA2.o (HNB.o b HW.o.hb.1 HW.o.hb.2)
     clear h5 hcc;refine hK.out _ _ (⟨z1,z2⟩) (fun hHeld=> ?_);clear hK K;try go_frame
     refine wd ?_;go_wp2;go_roundw
     case rel=> exact ⟨k + 1,by omega,by go_num,by rw [HN.o];exact HLV.o⟩
     case measure=> simp [intOf];omega
    ·obtain rfl:k=kids.length:=by omega
     have hpk:([]:List Int)::pathsTs 0 ((MRe.trees kids).take kids.length)=R:=by rw [HR.o,show (MRe.trees kids).take kids.length=MRe.trees kids by rw [←MRe.trees_length kids,List.take_length]]
     rw [hpk] at HWP;clear hpk;go_wp2
     go_end0
     exact ⟨rfl,HWP.o⟩
theorem apaths_any (m:MRe) (w:World) (k1:m.OK w) (hbz:m.tree.bulk≤1000000):
  Calls Tryz.prog 60 #[m.val] w (PathsPost w m.tree):=by
 obtain ⟨B,hB⟩:∃ B,B=w.heap.size:=⟨_,rfl⟩;have hlt:=k1.block_lt;have hsz:=(size_depth m.tree).1;have HW:=gi (fun (W:World) (hs:W.heap.size=B + 3) (h1:At8 W B 0 m) (h2:m.OK W) (h3:W.cell? ⟨B + 1 + 1,0,none⟩=some (.func (Fn.func 102) #[] #[.pointer (some ⟨B + 1,0,none⟩),.pointer (some ⟨B + 1 + 1,0,none⟩)])) (h4:W.heap[B + 1]? =some (.cells #[M none 0 0] 30 (0,0)))=> pathsW_any m (B + 3) (B + 1) (B + 1 + 1) B 0 none 0 [] none 0 [] W h1 h2 h3 h4 ⟨SliceAt.nil _ _ _,by simp⟩ (SliceAt.nil _ _ _)
  ⟨by omega,by omega,by omega,fun x hx=> by have:=hlt x hx;omega,by omega,(fun g hg=> by cases hg),(fun g hg=> by cases hg),(fun g hg=> by cases hg),(fun r hr=> by cases hr)⟩ (by simp only [List.length_nil];omega) (by simp only [List.length_nil];omega))
 have HK1:=gi k1;obtain ⟨r1,hr1⟩:∃ r,r=m:=⟨_,rfl⟩;obtain ⟨op1,sa1,sc1,set1,ka1,kc1,kids1,mn1,mx1,mode1,n1,neg1⟩:=m;simp only [MRe.val];have hmf:∀ (fn:Fn) (first cap:Array Value) (w:World),(Instr.makeFunc fn first cap).run Tryz.prog w=.ok (.func fn first cap) w:=fun _ _ _ _=> rfl;rw [←hr1] at HW HK1 ⊢;have R1:r1.row=[H J op1,M sa1 set1.length sc1,M ka1 kids1.length kc1,H J mn1,H J mx1,H J mode1,H J n1,F neg1]:=by rw [hr1];rfl
 have HR1:=gi R1;have HB:=gi hB;clear hr1 R1 k1 hlt hB hbz hsz;go_enter Tryz.func60,Tryz.ntmps60
 go_wp2_with fail
 rw [←HB.o];refine Calls.mono (HW.o _ ?_ ?_ ?_ ?_ ?_) ?_
 ·simp [HB.o]
 ·rw [HB.o];exact At8.keep (At8.box HR1.o.symm) (Keeps.a2 _ _ _)
 ·exact HK1.o.keep (Keeps.a3 w _ _ _)
 ·have hc:=cell_new ((w.alloc (.cells #[H J op1,M sa1 set1.length sc1,M ka1 kids1.length kc1,H J mn1,H J mx1,H J mode1,H J n1,F neg1] 26)).alloc (.cells #[M none 0 0] 30)) #[.func (Fn.func 102) #[] #[.pointer (some ⟨B + 1,0,none⟩),.pointer (some ⟨B + 1 + 1,0,none⟩)]] 109 0;have hs:((w.alloc (.cells #[H J op1,M sa1 set1.length sc1,M ka1 kids1.length kc1,H J mn1,H J mx1,H J mode1,H J n1,F neg1] 26)).alloc (.cells #[M none 0 0] 30)).heap.size=B + 1 + 1:=by simp [HB.o]
  rw [hs] at hc;exact hc
 ·exact (Keeps.a1 _ _).heap (by rw [HB.o];exact heap_alloc2_new w _ _) (by simp)
 rintro e w2 ⟨rfl,a',c',new,hk,hp,hpt,hn,hf,ha,_⟩;have hb3:∀ x y z,(((w.alloc x).alloc y).alloc z).heap.size=B + 3:=by intro x y z;simp [HB.o]
 have HK:=gi (((Keeps.a3 w _ _ _).mono (S':=[B + 1]) (by simp)).trans hk);have hln:=congrArg List.length hn;simp only [List.length_map] at hln;obtain ⟨g,rfl⟩:∃ g,a'=some g:=by
  cases a' with
  | some g=> exact ⟨g,rfl⟩
  | none=>
   have h1:=hpt.sl.2.1;have h2:=(paths_length r1.tree).1;have h3:1≤sizeT r1.tree:=by cases r1.tree;simp only [sizeT];omega
   simp only [List.nil_append] at h1;omega
 have hgn:B + 3≤g:=by
  rcases ha with h | ⟨y,h,hy⟩
  ·cases h
  ·cases h;rw [hb3] at hy;exact hy
 have HG:=gi hgn;have HPT:=gi hpt;have HN:=gi hn;have HLN:=gi hln;have HF:=gi (show ∀ r∈new,∀ ad,r.pa=some ad→B≤ad.block from fun r hr ad had=> by have:=hf r hr ad had;rw [hb3] at this;omega);have p2:w2.cell? ⟨B + 1,0,none⟩=some (M (some ⟨g,0,none⟩) new.length c'):=by simp [World.cell?,hp,sv]
 clear hk hp hpt hn hf ha hb3 hln hgn;go_wp2;go_ret;refine ⟨g,c',new,by rw [←HLN.o];rfl,?_,by simpa using HPT.o,HK.o.mono (by intro x hx;simp at hx;subst hx;exact .inr (by have:=HB.o;omega)),by have:=HG.o;have:=HB.o;omega,fun r hr ad had=> by have:=HF.o r hr ad had;have:=HB.o;omega⟩;rw [HN.o]
 simp
end Go.Proofs.YtjnlkjlbejelgaaGreat
