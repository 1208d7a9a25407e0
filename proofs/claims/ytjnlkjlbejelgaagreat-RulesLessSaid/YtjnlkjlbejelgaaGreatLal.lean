/- Part 12 of the proof. No condition: every lemma says its own. -/
import Derived.Shelf.Sort.Plain
import Derived.Shelf.Slices.CompactI
import Derived.Test.YtjnlkjlbejelgaaGreatLak
namespace Go.Proofs.YtjnlkjlbejelgaaGreat
open Go.RowKit
open Go.Value renaming int→H,slice→M,bool→F
open Go.IntKind renaming i64→J
open Go.RowKit Go.Shelf
open Go.RowKit Go.Shelf Go.Sort
set_option maxRecDepth 100000
set_option maxHeartbeats 16000000
theorem SliceAt.setN {w:World} {e size g n c:Nat} {xs:List Value} (h:SliceAt w e size (some g) n c xs) (i:Nat) (v:Value):SliceAt (w.setCell ⟨g,i,none⟩ v) e size (some g) n c (xs.set i v):=by
 obtain ⟨h1,cur,h2,h3,h4,h5,h6⟩:=h;refine ⟨by simpa using h1,_,heap_setCell_same w g i _ e v h2,h3,h4,by simpa using h5,?_⟩;subst h6;simp [List.take_set]
def addP (l:List (Int × Int)) (s:Int × Int):List (Int × Int):=
 match l.getLast? with
 | none=> [s]
 | some z=> if s.1≤z.2 + 1 then l.dropLast ++ [(z.1,max z.2 s.2)] else l ++ [s]
theorem addP_nil (s:Int × Int):addP [] s=[s]:=rfl
theorem addP_in (l:List (Int × Int)) (z s:Int × Int) (h:s.1≤z.2 + 1):addP (l ++ [z]) s=l ++ [(z.1,max z.2 s.2)]:=by
 simp [addP,h]
theorem addP_out (l:List (Int × Int)) (z s:Int × Int) (h:¬ s.1≤z.2 + 1):addP (l ++ [z]) s=(l ++ [z]) ++ [s]:=by
 simp [addP,h]
theorem flatP_set (l:List (Int × Int)) (z:Int × Int) (M':Int):(flatP (l ++ [z])).set (l.length * 2 + 1) (H J M')=flatP (l ++ [(z.1,M')]):=by
 rw [flatP_append,flatP_append,←flatP_length];rw [List.set_append_right _ _ (by omega)];simp [flatP]
def AddPost (w:World) (a:Option Nat) (r:List (Int × Int)) (e:Ending) (w':World):Prop:=
 ∃ g c',e=.returned (M (some ⟨g,0,none⟩) r.length c')∧SliceAt w' 86 2 (some g) r.length c' (flatP r)∧Keeps a.toList w w'∧(a=some g∨w.heap.size≤g)
theorem add_any (a:Option Nat) (c:Nat) (l:List (Int × Int)) (lo hi:Int) (w:World) (hs:SliceAt w 86 2 a l.length c (flatP l)) (hb:∀ z∈l,-10≤z.2∧z.2≤10000000) (hl:l.length≤100000):
  Calls Tryz.prog 155 #[sv a l.length c,.agg #[H J lo,H J hi]] w (AddPost w a (addP l (lo,hi))):=by
 obtain ⟨i0,hi0,hz0,hz1,hz2⟩:=info_parts infoSpan;have Hi:=gi hi0;have Hz0:=gi hz0;have Hz1:=gi hz1;have Hz2:=gi hz2;clear hi0 hz0 hz1 hz2;obtain ⟨C,hC⟩:∃ C,C=w.heap.size:=⟨_,rfl⟩;obtain ⟨Y,hY⟩:∃ Y,Y=w.alloc (.cells #[H J lo,H J hi] 86):=⟨_,rfl⟩;have hkY:Keeps [] w Y:=by rw [hY];exact Keeps.a1 _ _
 have hYH:Y.heap[C]? =some (.cells #[H J lo,H J hi] 86 (0,0)):=by rw [hY,hC];exact heap_alloc_new w _
 have y0:Y.cell? ⟨C,0,none⟩=some (H J lo):=by simp [World.cell?,hYH]
 have y1:Y.cell? ⟨C,1,none⟩=some (H J hi):=by simp [World.cell?,hYH]
 have HY:=gi hY;have HC:=gi hC;have KY:=gi hkY;have HS:=gi (hs.keep hkY (by simp));have HGW:=gi (fun (g:Nat) (h:a=some g)=> (by subst h;exact hs.lt:g < w.heap.size));clear hY hC hkY hYH hs;obtain rfl | ⟨ll,z,hlz⟩:=List.eq_nil_or_concat l
 ·rw [addP_nil];simp only [sv,List.length_nil] at HS ⊢;go_enter Tryz.func155,Tryz.ntmps155
  go_upto_region 2 with fail
  rw [←HY.o,←HC.o];refine rg (S:=fun w'=> w'.cell? ⟨C,0,none⟩=some (H J lo)) (fun _ k=> k.c y0) fun kz hHeld=> ?_;refine tk 0 ?_;refine tk 1 ?_;refine tk 2 ?_;refine tf 3 ?_;refine tf 4 ?_;refine tf 5 ?_;refine tf 6 ?_;refine tf 7 ?_;refine tf 8 ?_;refine tf 9 ?_;refine tf 10 ?_;refine tf 11 ?_;refine tf 12 ?_;refine tk 13 ?_;refine wd ?_
  go_wp2_with (at_builtin;refine wpList_append_sl rfl (.tmp 37) (.tmp 39) 23 rfl 86 i0 _ 2 16 Tryz.underlying23 Hi.o Hz0.o Hz1.o Hz2.o rfl (by decide) a 0 c [] rfl ((HS.o.drewN 1).alloc _) ⟨Y.heap.size,0,none⟩ 1 1 [H J lo,H J hi] rfl rfl ?hnews ?hone (by decide) (by omega) (by omega) ?hk)
  case hnews=> exact news_row' _ _ _ _ rfl
  case hone=> intro u hu;simp at hu;rcases hu with rfl | rfl <;> rfl
  case hk=>
   intro g c2 w2 hsl hk2 hg;have HSL:=gi hsl;have K2:=gi ((((KY.o.drew).alloc _).mono (by simp)).trans hk2);have HG:=gi hg;clear hsl hk2 hg y0 y1 hHeld;go_wp2;go_ret;exact ⟨g,c2,rfl,HSL.o,K2.o,by
    rcases HG.o with h | h
    ·exact .inl h
    ·exact .inr (by have h:Y.heap.size + 1≤g:=h;have:=KY.o.size;omega)⟩
 ·rw [List.concat_eq_append] at hlz;subst hlz
  cases a with
  | none=>
   have:=HS.o.2.1
   simp at this
  | some g=>
   obtain ⟨p,q⟩:=z;obtain ⟨n,hn⟩:∃ n,n=(ll ++ [(p,q)]).length:=⟨_,rfl⟩;have hn1:n=ll.length + 1:=by rw [hn];simp
   have hq:=hb (p,q) (by simp);simp only at hq;have hgl:=HS.o.lt;have hCY:C < Y.heap.size:=World.block_lt_of_cell? Y _ y0;have hgC:g≠C:=fun h=> by have:=HGW.o g rfl;have:=HC.o;omega
   have hlast:=HS.o.cell ((n - 1) * 2 + 1) (by rw [flatP_length,←hn];omega);have hv:=(flatP_get (ll ++ [(p,q)]) (n - 1) (by rw [←hn];omega)).2;have hx:Y.cell? ⟨g,(n - 1) * 2 + 1,none⟩=some (H J q):=by
    rw [hlast];rw [List.getElem?_eq_getElem (by rw [flatP_length,←hn];omega)] at hv;rw [hv];simp [hn1]
   have hff:=HS.o.fz ((n - 1) * 2 + 1);rw [←hn] at HS ⊢;have hn0:(0:Int) < (n:Int):=by omega
   have hn0n:0 < n:=by omega
   have hw1:IntKind.i64.wrap ((n:Int) - 1)=(n:Int) - 1:=IntWalk.i64_in _ (by omega);have hw2:IntKind.i64.wrap (q + 1)=q + 1:=IntWalk.i64_in _ (by omega);have hb1:(1:Int)≤(n:Int):=by omega
   have hb2:(n:Int) - 1 < (n:Int):=by omega
   have hb3:((n:Int) - 1).toNat=n - 1:=by omega
   have HN:=gi hn;have HN1:=gi hn1;have hnle:n≤100000:=by rw [hn];exact hl
   clear hlast hv hq hb hn hn1 hl;simp only [sv,Option.map_some]
   by_cases hle:lo≤q + 1
   ·have hR:=addP_in ll (p,q) (lo,hi) hle;have HR:=gi hR;clear hR;go_enter Tryz.func155,Tryz.ntmps155
    go_upto_region 2 with fail
    rw [←HY.o,←HC.o];refine rg (S:=fun w'=> w'.cell? ⟨C,0,none⟩=some (H J lo)∧w'.cell? ⟨g,(n - 1) * 2 + 1,none⟩=some (H J q)) (fun _ k=> ⟨k.c y0,k.c hx⟩) fun kz hHeld=> ?_;refine tk 0 ?_;refine tk 1 ?_;refine tk 2 ?_;refine tk 3 ?_;refine tk 4 ?_;refine tk 5 ?_;refine tk 6 ?_;refine tk 7 ?_;refine tk 8 ?_;refine tk 9 ?_;refine tk 10 ?_;refine tk 11 ?_;refine tk 12 ?_;refine tk 13 ?_;refine wd ?_;clear hHeld;go_upto_region 3 with fail
    refine rg (S:=fun w'=> w'.cell? ⟨C,1,none⟩=some (H J hi)) (fun _ k=> k.c y1) fun kz hHeld=> ?_;refine tk 0 ?_;refine tk 1 ?_;refine tk 2 ?_;refine tk 3 ?_;refine tk 4 ?_;refine tk 5 ?_;refine tk 6 ?_;refine tk 7 ?_;refine tk 9 ?_;refine tk 10 ?_;refine j6 8 fun K hK=> ?_;go_simp;refine hK.out _ _ (y1) (fun hHeld=> ?_);clear hK K;try go_frame
    by_cases hm:q < hi
    ·have hm2:max q hi=hi:=by omega
     refine tk 11 ?_;refine tk 12 ?_;refine tk 13 ?_;refine j6 14 fun K hK=> ?_;go_simp;refine hK.out _ _ (((((Keeps.refl [g] Y).setCell (p:=⟨g,(n - 1) * 2 + 1,none⟩) (.inl (by simp)) (H J hi)).drew).drew).cell y1 (by simp;omega)) (fun hHeld=> ?_);clear hK K;try go_frame
     refine wd ?_;go_wp2;go_ret;refine ⟨g,c,?_,?_,?_,.inl rfl⟩
     ·rw [HR.o]
      show Ending.returned (M (some ⟨g,0,none⟩) n c)=_
      rw [HN.o]
      simp
     ·rw [HR.o];have h:=((HS.o.setN ((n - 1) * 2 + 1) (H J hi)).drewN 1).drewN 1;rw [show n - 1=ll.length by have:=HN1.o;omega,flatP_set] at h;rw [show (ll ++ [((p,q).1,max (p,q).2 (lo,hi).2)]).length=n by rw [HN.o];simp];rw [show max (p,q).2 (lo,hi).2=hi by simp only;omega];rw [show n - 1=ll.length by have:=HN1.o;omega];exact h
     ·exact (((KY.o.mono (by simp)).setCell (p:=⟨g,(n - 1) * 2 + 1,none⟩) (.inl (by simp)) _).drew).drew
    ·have hm2:max q hi=q:=by omega
     refine tk 11 ?_;refine tk 12 ?_;refine tk 13 ?_;refine j6 14 fun K hK=> ?_;go_simp;refine hK.out _ _ (((((Keeps.refl [g] Y).setCell (p:=⟨g,(n - 1) * 2 + 1,none⟩) (.inl (by simp)) (H J q)).drew).drew).cell y1 (by simp;omega)) (fun hHeld=> ?_);clear hK K;try go_frame
     refine wd ?_;go_wp2;go_ret;refine ⟨g,c,?_,?_,?_,.inl rfl⟩
     ·rw [HR.o]
      show Ending.returned (M (some ⟨g,0,none⟩) n c)=_
      rw [HN.o]
      simp
     ·rw [HR.o];have h:=((HS.o.setN ((n - 1) * 2 + 1) (H J q)).drewN 1).drewN 1;rw [show n - 1=ll.length by have:=HN1.o;omega,flatP_set] at h;rw [show (ll ++ [((p,q).1,max (p,q).2 (lo,hi).2)]).length=n by rw [HN.o];simp];rw [show max (p,q).2 (lo,hi).2=q by simp only;omega];rw [show n - 1=ll.length by have:=HN1.o;omega];exact h
     ·exact (((KY.o.mono (by simp)).setCell (p:=⟨g,(n - 1) * 2 + 1,none⟩) (.inl (by simp)) _).drew).drew
   ·have hR:=addP_out ll (p,q) (lo,hi) hle;have HR:=gi hR;clear hR;go_enter Tryz.func155,Tryz.ntmps155
    go_upto_region 2 with fail
    rw [←HY.o,←HC.o];refine rg (S:=fun w'=> w'.cell? ⟨C,0,none⟩=some (H J lo)∧w'.cell? ⟨g,(n - 1) * 2 + 1,none⟩=some (H J q)) (fun _ k=> ⟨k.c y0,k.c hx⟩) fun kz hHeld=> ?_;refine tk 0 ?_;refine tk 1 ?_;refine tk 2 ?_;refine tk 3 ?_;refine tk 4 ?_;refine tk 5 ?_;refine tk 6 ?_;refine tk 7 ?_;refine tk 8 ?_;refine tk 9 ?_;refine tk 10 ?_;refine tk 11 ?_;refine tk 12 ?_;refine tk 13 ?_;refine wd ?_;clear hHeld
    go_wp2_with (at_builtin;refine wpList_append_sl rfl (.tmp 37) (.tmp 39) 23 rfl 86 i0 _ 2 16 Tryz.underlying23 Hi.o Hz0.o Hz1.o Hz2.o rfl (by decide) (some g) n c _ rfl ((HS.o.drewN 1).alloc _) ⟨Y.heap.size,0,none⟩ 1 1 [H J lo,H J hi] rfl rfl ?hnews2 ?hone2 (by decide) (by omega) (by omega) ?hk2)
    case hone2=> exact ⟨rfl,rfl⟩
    case hk2=>
     intro g' c2 w2 hsl hk2 hg;have HSL:=gi hsl;have K2:=gi ((((KY.o.drew).alloc _).mono (by simp)).trans hk2);have HG:=gi hg;clear hsl hk2 hg y0 y1 hx hff;go_wp2;go_ret;refine ⟨g',c2,?_,?_,K2.o,?_⟩
     ·rw [HR.o]
      show Ending.returned (M (some ⟨g',0,none⟩) (n + 1) c2)=_
      rw [HN.o]
      simp
     ·rw [HR.o,flatP_append]
      have:=HSL.o
      rw [show ((ll ++ [(p,q)]) ++ [(lo,hi)]).length=n + 1 by rw [HN.o];simp];exact this
     ·rcases HG.o with h | h
      ·exact .inl (congrArg some h)
      ·exact .inr (by have h:Y.heap.size + 1≤g':=h;have:=KY.o.size;omega)
def sortRen:Ren where
 f:=fun x=> match x with
  | 189=> 153
  | 125=> 157
  | 257=> 156
  | 128=> 167
  | 129=> 168
  | 294=> 158
  | 295=> 159
  | 296=> 160
  | 297=> 161
  | 298=> 162
  | 299=> 163
  | 216=> 164
  | 300=> 165
  | 301=> 166
  | 328=> 169
  | 329=> 170
  | 330=> 171
  | 331=> 172
  | 332=> 173
  | 215=> 174
  | 343=> 175
  | n=> n
 t:=fun x=> match x with
  | 28=> 22
  | 3=> 3
  | 46=> 148
  | 0=> 0
  | 51=> 157
  | 53=> 159
  | 4=> 4
  | 183=> 151
  | 182=> 150
  | 131=> 119
  | 5=> 5
  | 9=> 9
  | 218=> 160
  | 222=> 164
  | 228=> 167
  | 229=> 130
  | n=> n
 g:=fun n=> n
theorem sortLays:Lays.n189 Tryz.prog sortRen where
 mixed:=by kernel_rfl
 f125:=Tryz.func157.trans (congrArg some (by kernel_rfl))
 f128:=Tryz.func167.trans (congrArg some (by kernel_rfl))
 f129:=Tryz.func168.trans (congrArg some (by kernel_rfl))
 f189:=Tryz.func153.trans (congrArg some (by kernel_rfl))
 f215:=Tryz.func174.trans (congrArg some (by kernel_rfl))
 f216:=Tryz.func164.trans (congrArg some (by kernel_rfl))
 f257:=Tryz.func156.trans (congrArg some (by kernel_rfl))
 f294:=Tryz.func158.trans (congrArg some (by kernel_rfl))
 f295:=Tryz.func159.trans (congrArg some (by kernel_rfl))
 f296:=Tryz.func160.trans (congrArg some (by kernel_rfl))
 f297:=Tryz.func161.trans (congrArg some (by kernel_rfl))
 f298:=Tryz.func162.trans (congrArg some (by kernel_rfl))
 f299:=Tryz.func163.trans (congrArg some (by kernel_rfl))
 f300:=Tryz.func165.trans (congrArg some (by kernel_rfl))
 f301:=Tryz.func166.trans (congrArg some (by kernel_rfl))
 f328:=Tryz.func169.trans (congrArg some (by kernel_rfl))
 f329:=Tryz.func170.trans (congrArg some (by kernel_rfl))
 f330:=Tryz.func171.trans (congrArg some (by kernel_rfl))
 f331:=Tryz.func172.trans (congrArg some (by kernel_rfl))
 f332:=Tryz.func173.trans (congrArg some (by kernel_rfl))
 f343:=Tryz.func175.trans (congrArg some (by kernel_rfl))
 t0:=Tryz.underlying0
 a0:=Tryz.isAgg0
 z0:=Tryz.sizeOf0
 v0:=Tryz.zeroValue0
 t3:=Tryz.underlying3
 a3:=Tryz.isAgg3
 z3:=Tryz.sizeOf3
 v3:=Tryz.zeroValue3
 t4:=Tryz.underlying4
 a4:=Tryz.isAgg4
 z4:=Tryz.sizeOf4
 v4:=Tryz.zeroValue4
 t5:=Tryz.underlying5
 a5:=Tryz.isAgg5
 z5:=Tryz.sizeOf5
 v5:=Tryz.zeroValue5
 t9:=Tryz.underlying9
 a9:=Tryz.isAgg9
 z9:=Tryz.sizeOf9
 v9:=Tryz.zeroValue9
 t28:=Tryz.underlying22
 a28:=Tryz.isAgg22
 z28:=Tryz.sizeOf22
 v28:=Tryz.zeroValue22
 t46:=Tryz.underlying148
 a46:=Tryz.isAgg148
 z46:=Tryz.sizeOf148
 v46:=Tryz.zeroValue148
 t51:=Tryz.underlying157
 a51:=Tryz.isAgg157
 z51:=Tryz.sizeOf157
 v51:=Tryz.zeroValue157
 t53:=Tryz.underlying159
 a53:=Tryz.isAgg159
 z53:=Tryz.sizeOf159
 v53:=Tryz.zeroValue159
 t131:=Tryz.underlying119
 a131:=Tryz.isAgg119
 z131:=Tryz.sizeOf119
 v131:=Tryz.zeroValue119
 t182:=Tryz.underlying150
 a182:=Tryz.isAgg150
 z182:=Tryz.sizeOf150
 v182:=Tryz.zeroValue150
 t183:=Tryz.underlying151
 a183:=Tryz.isAgg151
 z183:=Tryz.sizeOf151
 v183:=Tryz.zeroValue151
 t218:=Tryz.underlying160
 a218:=Tryz.isAgg160
 z218:=Tryz.sizeOf160
 v218:=Tryz.zeroValue160
 t222:=Tryz.underlying164
 a222:=Tryz.isAgg164
 z222:=Tryz.sizeOf164
 v222:=Tryz.zeroValue164
 t228:=Tryz.underlying167
 a228:=Tryz.isAgg167
 z228:=Tryz.sizeOf167
 v228:=Tryz.zeroValue167
 t229:=Tryz.underlying130
 a229:=Tryz.isAgg130
 z229:=Tryz.sizeOf130
 v229:=Tryz.zeroValue130
def compactRen:Ren where
 f:=fun x=> match x with
  | 20=> 154
  | n=> n
 t:=fun x=> match x with
  | 22=> 22
  | 3=> 3
  | 4=> 4
  | 0=> 0
  | n=> n
 g:=fun n=> n
theorem compactLays:Lays2.n20 Tryz.prog compactRen where
 mixed:=by kernel_rfl
 f20:=Tryz.func154.trans (congrArg some (by kernel_rfl))
 t0:=Tryz.underlying0
 a0:=Tryz.isAgg0
 z0:=Tryz.sizeOf0
 v0:=Tryz.zeroValue0
 t3:=Tryz.underlying3
 a3:=Tryz.isAgg3
 z3:=Tryz.sizeOf3
 v3:=Tryz.zeroValue3
 t4:=Tryz.underlying4
 a4:=Tryz.isAgg4
 z4:=Tryz.sizeOf4
 v4:=Tryz.zeroValue4
 t22:=Tryz.underlying22
 a22:=Tryz.isAgg22
 z22:=Tryz.sizeOf22
 v22:=Tryz.zeroValue22
 i3:=by kernel_rfl
theorem SliceAt.holds {w:World} {e g n c:Nat} {zs:List Int} (h:SliceAt w e 1 (some g) n c (zs.map (H J))):Holds (H J) w g 0 zs.toArray:=by
 intro j hj;have hj':j < zs.length:=by simpa using hj
 refine ⟨?_,h.fz _⟩
 have:=h.cell j (by simpa using hj')
 rw [Nat.zero_add,this];simp [hj']
theorem putRow_heap {w:World} {g:Nat} {cur:Array Value} {e:Nat} {fr:Nat × Nat} (h:w.heap[g]? =some (.cells cur e fr)) (d:Array Int):(putRow (H J) w g 0 d).heap[g]? =some (.cells (putCells (H J) 0 d cur) e fr):=by
 show (w.heap.modify g (onCells (putCells (H J) 0 d)))[g]? =_
 rw [Array.getElem?_modify,if_pos rfl,h]
 rfl
theorem putRow_keeps (w:World) (g:Nat) (d:Array Int):Keeps [g] w (putRow (H J) w g 0 d):=
 ⟨rfl,rfl,rfl,by simp [putRow,mapBlock],fun k hk hs=> by
  have:¬ g=k:=fun h=> hs (by simp [h])
  simp [putRow,mapBlock,Array.getElem?_modify,this]⟩
theorem ahead_keeps (w:World) (n:Nat):Keeps [] w (Sort.ahead w n):=⟨rfl,rfl,rfl,Nat.le_refl _,fun _ _ _=> rfl⟩
theorem grow_keeps (w:World) (os:Array Obj):Keeps [] w (grow w os):=
 ⟨rfl,rfl,rfl,by simp [grow],fun k hk _=> by simp [grow,Array.getElem?_append_left hk]⟩
theorem SliceAt.putRow {w:World} {e g n c:Nat} {zs d:List Int} (h:SliceAt w e 1 (some g) n c (zs.map (H J))) (hd:d.length=n):SliceAt (Sort.putRow (H J) w g 0 d.toArray) e 1 (some g) n c (d.map (H J)):=by
 obtain ⟨h1,cur,h2,h3,h4,h5,h6⟩:=h;refine ⟨by simp [hd],_,putRow_heap h2 _,h3,h4,by simpa [putCells] using h5,?_⟩;have hc:cur.size=c:=by omega
 apply List.ext_getElem?
 intro i;rw [List.getElem?_take]
 by_cases hi:i < n
 ·have hic:i < cur.size:=by omega
  simp [putCells,hi,hd,hic]
 ·have:(d.map (H J))[i]? =none:=by rw [List.getElem?_eq_none];simp;omega
  simp [hi,this]
theorem sort_any (g c:Nat) (zs:List Int) (w:World) (h:SliceAt w 3 1 (some g) zs.length c (zs.map (H J))) (hn:zs.length≤1000000):
  Calls Tryz.prog 153 #[M (some ⟨g,0,none⟩) zs.length c] w fun e w'=> e=.returned (.tuple #[])∧SliceAt w' 3 1 (some g) zs.length c ((zs.mergeSort fun x y=> decide (x≤y)).map (H J))∧Keeps [g] w w':=by
 refine (Any.slices_Sort_int sortLays g 0 c zs w h.holds h.lt (by omega)).mono ?_;rintro e w' ⟨rfl,n,os,rfl⟩;have hp:=(h.keep (S:=[]) (ahead_keeps w n) (by simp)).putRow (d:=zs.mergeSort fun x y=> decide (x≤y)) (List.length_mergeSort zs);exact ⟨rfl,hp.keep (S:=[]) (grow_keeps _ os) (by simp),((ahead_keeps w n).mono (by simp)).trans ((putRow_keeps _ g _).trans ((grow_keeps _ os).mono (by simp)))⟩
theorem compact_len (zs:List Int):(Lib.compact zs).length≤zs.length:=by
 unfold Lib.compact Lib.compactUpTo;rw [List.length_map];exact Nat.le_trans (List.length_filter_le _ _) (by simp)
theorem compact_any (g c:Nat) (zs:List Int) (w:World) (h:SliceAt w 3 1 (some g) zs.length c (zs.map (H J))) (hn:zs.length≤1000000):
  Calls Tryz.prog 154 #[M (some ⟨g,0,none⟩) zs.length c] w fun e w'=> e=.returned (M (some ⟨g,0,none⟩) (Lib.compact zs).length c)∧SliceAt w' 3 1 (some g) (Lib.compact zs).length c ((Lib.compact zs).map (H J))∧Keeps [g] w w':=by
 have hle:=compact_len zs;refine (Any.slices_Compact_int compactLays g 0 c zs w h.holds (by omega) ?_).mono ?_
 ·obtain ⟨_,cur,_,h3,_⟩:=h;exact h3
 rintro e w' ⟨rfl,q,rfl⟩;have hp:=(h.keep (S:=[]) (ahead_keeps w q) (by simp)).putRow (d:=Lib.compact zs ++ List.replicate (zs.length - (Lib.compact zs).length) 0) (by simp;omega);refine ⟨rfl,?_,((ahead_keeps w q).mono (by simp)).trans (putRow_keeps _ g _)⟩;obtain ⟨h1,cur,h2,h3,h4,h5,h6⟩:=hp;refine ⟨by simp,cur,h2,by omega,h4,h5,?_⟩
 have:=congrArg (List.take (Lib.compact zs).length) h6
 rw [List.take_take,Nat.mul_one,Nat.min_eq_left hle,List.map_append,List.take_left' (by simp)] at this;rw [Nat.mul_one];exact this
end Go.Proofs.YtjnlkjlbejelgaaGreat
