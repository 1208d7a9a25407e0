/- Part 12 of the proof. No condition: every lemma says its own. -/
import Derived.Shelf.Sort.Plain
import Derived.Shelf.Slices.CompactI
import Derived.Test.YtjnlkjlbejelgaaGreatLak
namespace Go.Proofs.YtjnlkjlbejelgaaGreat
open Go.RowKit Go.Shelf
open Go.Value renaming int→H,slice→M,bool→F
open Go.IntKind renaming i64→J
open Go.RowKit Go.Shelf Go.Sort
set_option maxRecDepth 100000
set_option maxHeartbeats 16000000
def sortRen:Ren where
 f:=fun x=> match x with
  | 189=> 153
  | 125=> 157
  | 257=> 156
  | 128=> 167
  | 129=> 168
  | 294=> 158
  | 295=> 159
  | 296=> 160
  | 297=> 161
  | 298=> 162
  | 299=> 163
  | 216=> 164
  | 300=> 165
  | 301=> 166
  | 328=> 169
  | 329=> 170
  | 330=> 171
  | 331=> 172
  | 332=> 173
  | 215=> 174
  | 343=> 175
  | n=> n
 t:=fun x=> match x with
  | 28=> 22
  | 3=> 3
  | 46=> 148
  | 0=> 0
  | 51=> 157
  | 53=> 159
  | 4=> 4
  | 183=> 151
  | 182=> 150
  | 131=> 119
  | 5=> 5
  | 9=> 9
  | 218=> 160
  | 222=> 164
  | 228=> 167
  | 229=> 130
  | n=> n
 g:=fun n=> n
theorem sortLays:Lays.n189 Tryz.prog sortRen where
 mixed:=by kernel_rfl
 f125:=Tryz.func157.trans (congrArg some (by kernel_rfl))
 f128:=Tryz.func167.trans (congrArg some (by kernel_rfl))
 f129:=Tryz.func168.trans (congrArg some (by kernel_rfl))
 f189:=Tryz.func153.trans (congrArg some (by kernel_rfl))
 f215:=Tryz.func174.trans (congrArg some (by kernel_rfl))
 f216:=Tryz.func164.trans (congrArg some (by kernel_rfl))
 f257:=Tryz.func156.trans (congrArg some (by kernel_rfl))
 f294:=Tryz.func158.trans (congrArg some (by kernel_rfl))
 f295:=Tryz.func159.trans (congrArg some (by kernel_rfl))
 f296:=Tryz.func160.trans (congrArg some (by kernel_rfl))
 f297:=Tryz.func161.trans (congrArg some (by kernel_rfl))
 f298:=Tryz.func162.trans (congrArg some (by kernel_rfl))
 f299:=Tryz.func163.trans (congrArg some (by kernel_rfl))
 f300:=Tryz.func165.trans (congrArg some (by kernel_rfl))
 f301:=Tryz.func166.trans (congrArg some (by kernel_rfl))
 f328:=Tryz.func169.trans (congrArg some (by kernel_rfl))
 f329:=Tryz.func170.trans (congrArg some (by kernel_rfl))
 f330:=Tryz.func171.trans (congrArg some (by kernel_rfl))
 f331:=Tryz.func172.trans (congrArg some (by kernel_rfl))
 f332:=Tryz.func173.trans (congrArg some (by kernel_rfl))
 f343:=Tryz.func175.trans (congrArg some (by kernel_rfl))
 t0:=Tryz.underlying0
 a0:=Tryz.isAgg0
 z0:=Tryz.sizeOf0
 v0:=Tryz.zeroValue0
 t3:=Tryz.underlying3
 a3:=Tryz.isAgg3
 z3:=Tryz.sizeOf3
 v3:=Tryz.zeroValue3
 t4:=Tryz.underlying4
 a4:=Tryz.isAgg4
 z4:=Tryz.sizeOf4
 v4:=Tryz.zeroValue4
 t5:=Tryz.underlying5
 a5:=Tryz.isAgg5
 z5:=Tryz.sizeOf5
 v5:=Tryz.zeroValue5
 t9:=Tryz.underlying9
 a9:=Tryz.isAgg9
 z9:=Tryz.sizeOf9
 v9:=Tryz.zeroValue9
 t28:=Tryz.underlying22
 a28:=Tryz.isAgg22
 z28:=Tryz.sizeOf22
 v28:=Tryz.zeroValue22
 t46:=Tryz.underlying148
 a46:=Tryz.isAgg148
 z46:=Tryz.sizeOf148
 v46:=Tryz.zeroValue148
 t51:=Tryz.underlying157
 a51:=Tryz.isAgg157
 z51:=Tryz.sizeOf157
 v51:=Tryz.zeroValue157
 t53:=Tryz.underlying159
 a53:=Tryz.isAgg159
 z53:=Tryz.sizeOf159
 v53:=Tryz.zeroValue159
 t131:=Tryz.underlying119
 a131:=Tryz.isAgg119
 z131:=Tryz.sizeOf119
 v131:=Tryz.zeroValue119
 t182:=Tryz.underlying150
 a182:=Tryz.isAgg150
 z182:=Tryz.sizeOf150
 v182:=Tryz.zeroValue150
 t183:=Tryz.underlying151
 a183:=Tryz.isAgg151
 z183:=Tryz.sizeOf151
 v183:=Tryz.zeroValue151
 t218:=Tryz.underlying160
 a218:=Tryz.isAgg160
 z218:=Tryz.sizeOf160
 v218:=Tryz.zeroValue160
 t222:=Tryz.underlying164
 a222:=Tryz.isAgg164
 z222:=Tryz.sizeOf164
 v222:=Tryz.zeroValue164
 t228:=Tryz.underlying167
 a228:=Tryz.isAgg167
 z228:=Tryz.sizeOf167
 v228:=Tryz.zeroValue167
 t229:=Tryz.underlying130
 a229:=Tryz.isAgg130
 z229:=Tryz.sizeOf130
 v229:=Tryz.zeroValue130
def compactRen:Ren where
 f:=fun x=> match x with
  | 20=> 154
  | n=> n
 t:=fun x=> match x with
  | 22=> 22
  | 3=> 3
  | 4=> 4
  | 0=> 0
  | n=> n
 g:=fun n=> n
theorem compactLays:Lays2.n20 Tryz.prog compactRen where
 mixed:=by kernel_rfl
 f20:=Tryz.func154.trans (congrArg some (by kernel_rfl))
 t0:=Tryz.underlying0
 a0:=Tryz.isAgg0
 z0:=Tryz.sizeOf0
 v0:=Tryz.zeroValue0
 t3:=Tryz.underlying3
 a3:=Tryz.isAgg3
 z3:=Tryz.sizeOf3
 v3:=Tryz.zeroValue3
 t4:=Tryz.underlying4
 a4:=Tryz.isAgg4
 z4:=Tryz.sizeOf4
 v4:=Tryz.zeroValue4
 t22:=Tryz.underlying22
 a22:=Tryz.isAgg22
 z22:=Tryz.sizeOf22
 v22:=Tryz.zeroValue22
 i3:=by kernel_rfl
theorem SliceAt.holds {w:World} {e g n c:Nat} {zs:List Int} (h:SliceAt w e 1 (some g) n c (zs.map (H J))):Holds (H J) w g 0 zs.toArray:=by
 intro j hj;have hj':j < zs.length:=by simpa using hj
 refine ⟨?_,h.fz _⟩
 have:=h.cell j (by simpa using hj')
 rw [Nat.zero_add,this];simp [hj']
theorem putRow_heap {w:World} {g:Nat} {cur:Array Value} {e:Nat} {fr:Nat × Nat} (h:w.heap[g]? =some (.cells cur e fr)) (d:Array Int):(putRow (H J) w g 0 d).heap[g]? =some (.cells (putCells (H J) 0 d cur) e fr):=by
 show (w.heap.modify g (onCells (putCells (H J) 0 d)))[g]? =_
 rw [Array.getElem?_modify,if_pos rfl,h]
 rfl
theorem putRow_keeps (w:World) (g:Nat) (d:Array Int):Keeps [g] w (putRow (H J) w g 0 d):=
 ⟨rfl,rfl,rfl,by simp [putRow,mapBlock],fun k hk hs=> by
  have:¬ g=k:=fun h=> hs (by simp [h])
  simp [putRow,mapBlock,Array.getElem?_modify,this]⟩
theorem ahead_keeps (w:World) (n:Nat):Keeps [] w (Sort.ahead w n):=⟨rfl,rfl,rfl,Nat.le_refl _,fun _ _ _=> rfl⟩
theorem grow_keeps (w:World) (os:Array Obj):Keeps [] w (grow w os):=
 ⟨rfl,rfl,rfl,by simp [grow],fun k hk _=> by simp [grow,Array.getElem?_append_left hk]⟩
theorem SliceAt.putRow {w:World} {e g n c:Nat} {zs d:List Int} (h:SliceAt w e 1 (some g) n c (zs.map (H J))) (hd:d.length=n):SliceAt (Sort.putRow (H J) w g 0 d.toArray) e 1 (some g) n c (d.map (H J)):=by
 obtain ⟨h1,cur,h2,h3,h4,h5,h6⟩:=h;refine ⟨by simp [hd],_,putRow_heap h2 _,h3,h4,by simpa [putCells] using h5,?_⟩;have hc:cur.size=c:=by omega
 apply List.ext_getElem?
 intro i;rw [List.getElem?_take]
 by_cases hi:i < n
 ·have hic:i < cur.size:=by omega
  simp [putCells,hi,hd,hic]
 ·have:(d.map (H J))[i]? =none:=by rw [List.getElem?_eq_none];simp;omega
  simp [hi,this]
theorem sort_any (g c:Nat) (zs:List Int) (w:World) (h:SliceAt w 3 1 (some g) zs.length c (zs.map (H J))) (hn:zs.length≤1000000):
  Calls Tryz.prog 153 #[M (some ⟨g,0,none⟩) zs.length c] w fun e w'=> e=.returned (.tuple #[])∧SliceAt w' 3 1 (some g) zs.length c ((zs.mergeSort fun x y=> decide (x≤y)).map (H J))∧Keeps [g] w w':=by
 refine (Any.slices_Sort_int sortLays g 0 c zs w h.holds h.lt (by omega)).mono ?_;rintro e w' ⟨rfl,n,os,rfl⟩;have hp:=(h.keep (S:=[]) (ahead_keeps w n) (by simp)).putRow (d:=zs.mergeSort fun x y=> decide (x≤y)) (List.length_mergeSort zs);exact ⟨rfl,hp.keep (S:=[]) (grow_keeps _ os) (by simp),((ahead_keeps w n).mono (by simp)).trans ((putRow_keeps _ g _).trans ((grow_keeps _ os).mono (by simp)))⟩
theorem compact_len (zs:List Int):(Lib.compact zs).length≤zs.length:=by
 unfold Lib.compact Lib.compactUpTo;rw [List.length_map];exact Nat.le_trans (List.length_filter_le _ _) (by simp)
theorem compact_any (g c:Nat) (zs:List Int) (w:World) (h:SliceAt w 3 1 (some g) zs.length c (zs.map (H J))) (hn:zs.length≤1000000):
  Calls Tryz.prog 154 #[M (some ⟨g,0,none⟩) zs.length c] w fun e w'=> e=.returned (M (some ⟨g,0,none⟩) (Lib.compact zs).length c)∧SliceAt w' 3 1 (some g) (Lib.compact zs).length c ((Lib.compact zs).map (H J))∧Keeps [g] w w':=by
 have hle:=compact_len zs;refine (Any.slices_Compact_int compactLays g 0 c zs w h.holds (by omega) ?_).mono ?_
 ·obtain ⟨_,cur,_,h3,_⟩:=h;exact h3
 rintro e w' ⟨rfl,q,rfl⟩;have hp:=(h.keep (S:=[]) (ahead_keeps w q) (by simp)).putRow (d:=Lib.compact zs ++ List.replicate (zs.length - (Lib.compact zs).length) 0) (by simp;omega);refine ⟨rfl,?_,((ahead_keeps w q).mono (by simp)).trans (putRow_keeps _ g _)⟩;obtain ⟨h1,cur,h2,h3,h4,h5,h6⟩:=hp;refine ⟨by simp,cur,h2,by omega,h4,h5,?_⟩
 have:=congrArg (List.take (Lib.compact zs).length) h6
 rw [List.take_take,Nat.mul_one,Nat.min_eq_left hle,List.map_append,List.take_left' (by simp)] at this;rw [Nat.mul_one];exact this
end Go.Proofs.YtjnlkjlbejelgaaGreat
