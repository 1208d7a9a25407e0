/- Part of the proof. No condition: every lemma says its own. -/
import Derived.Test.YtjnlkjlbejelgaaGreatRPaa
namespace Go.Proofs.YtjnlkjlbejelgaaGreat
open Go.RowKit
open Go.Value renaming int→H,slice→M,bool→F
open Go.IntKind renaming i64→J
set_option maxRecDepth 100000
set_option maxHeartbeats 16000000
theorem Me (a b:List Tree):dV (a ++ b)=dV a + dV b:=by
 induction a with
 | nil=> simp [dV]
 | cons x r ih=> simp only [List.cons_append,dV,ih];omega
theorem adv (t:Tree):1≤dD t:=by cases t;simp only [dD];omega
theorem Ud {l:List Tree} {i:Nat} (h:i < l.length):l=l.take i ++ ([l[i]] ++ l.drop (i + 1)):=by
 rw [List.singleton_append,←List.drop_eq_getElem_cons h,List.take_append_drop]
theorem ala {l:List Tree} {i:Nat} (h:i + 1 < l.length):l=l.take i ++ ([l[i],l[i + 1]] ++ l.drop (i + 2)):=by
 have h1:l.drop i=l[i]::l[i + 1]::l.drop (i + 2):=by rw [List.drop_eq_getElem_cons (by omega),List.drop_eq_getElem_cons (i:=i + 1) (by omega)]
 show l=l.take i ++ (l[i]::l[i + 1]::l.drop (i + 2))
 rw [←h1,List.take_append_drop]
theorem Ch {l:List Tree} {i:Nat} (h:i < l.length):l.getD i .nil=l[i]:=by rw [List.getD_eq_getElem?_getD,List.getElem?_eq_getElem h,Option.getD_some]
theorem aoC:∀ (l seen:List Tree) (i:Nat),oK seen l=some i→∃ h:i < l.length,∃ o∈seen ++ l.take i,o=l[i]:=by
 intro l
 induction l with
 | nil=> intro seen i h;simp [oK] at h
 | cons k ks ih=>
  intro seen i h;rw [oK] at h
  split at h
  ·rename_i hs
   cases h
   obtain ⟨o,ds,he⟩:=List.any_eq_true.1 hs;exact ⟨by simp,o,by simpa using ds,(J7 o k).1 he⟩
  ·obtain ⟨j,c8,rfl⟩:=Option.map_eq_some_iff.1 h;obtain ⟨hl,o,ds,he⟩:=ih _ _ c8;exact ⟨by simpa using hl,o,by simpa using ds,by simpa using he⟩
theorem akr:∀ {l:List Tree} {i:Nat},oZ l=some i→i < l.length:=by
 intro l
 induction l with
 | nil=> intro i h;simp [oZ] at h
 | cons x r ih=>
  intro i h;rw [oZ] at h
  split at h
  ·cases h;simp
  ·obtain ⟨j,c8,rfl⟩:=Option.map_eq_some_iff.1 h
   have:=ih c8
   simpa using this
theorem J5 (a b:List Tree):eh (a ++ b)=max (eh a) (eh b):=by
 induction a with
 | nil=> simp [eh]
 | cons x r ih=> simp only [List.cons_append,eh,ih];omega
structure ry (c d:Nat) (x y:Tree):Prop where
 Er:dD y≤dD x + c
 Dv:ev y≤ev x + d
theorem Gk (op:Int) (fs:List Tree):dD (im op fs)≤1 + dV fs∧ev (im op fs)≤eh fs + 1:=by
 match fs with
 | []=> simp [im,dD,ev]
 | [x]=> simp only [im,dV,eh];omega
 | x::y::r=> simp only [im,dD,ev];omega
theorem Hw (l:List Tree) (i:Nat):dV (l.take i) + (dD (l.getD i .nil) + dV (l.drop (i + 1)))≤dV l + 1∧eh (l.take i)≤eh l∧ev (l.getD i .nil)≤eh l + 1∧eh (l.drop (i + 1))≤eh l:=by
 rcases Nat.lt_or_ge i l.length with h | h
 ·rw [Ch h];have hc:=Ud h;have h1:=congrArg dV hc;have h2:=congrArg eh hc;simp only [Me,J5,dV,eh] at h1 h2;omega
 ·rw [List.take_of_length_le h,List.drop_of_length_le (by omega),List.getD_eq_getElem?_getD,List.getElem?_eq_none h,Option.getD_none];simp [Tree.nil,dD,dV,ev,eh]
theorem Kg (l:List Tree) (i:Nat):dD (l.getD i .nil)≤dV l + 1∧ev (l.getD i .nil)≤eh l + 1:=by
 have:=Hw l i
 omega
theorem Mh {op op2:Int} {set mn mx mode n neg} {kids l:List Tree} {i:Nat} (hi:i < kids.length) (h1:dV l≤dD kids[i] + 3) (h2:eh l≤ev kids[i] + 2):ry 3 2 (.node op set kids mn mx mode n neg) (hF op2 kids i (i + 1) l):=by
 obtain ⟨a,b⟩:=Gk op2 (kids.take i ++ (l ++ kids.drop (i + 1)));have hc:=Ud hi;have aV:=congrArg dV hc;have a6:=congrArg eh hc;simp only [Me,J5,dV,eh] at aV a6 a b
 constructor
 ·simp only [dD,hF];omega
 ·simp only [ev,hF];omega
theorem Pr {op op2:Int} {set mn mx mode n neg} {kids:List Tree} {z:Tree} {i:Nat} (hi:i + 1 < kids.length) (h1:dD z≤dD kids[i] + dD kids[i + 1] + 3) (h2:ev z≤max (ev kids[i]) (ev kids[i + 1]) + 2):ry 3 2 (.node op set kids mn mx mode n neg) (hF op2 kids i (i + 2) [z]):=by
 obtain ⟨a,b⟩:=Gk op2 (kids.take i ++ ([z] ++ kids.drop (i + 2)));have hc:=ala hi;have aV:=congrArg dV hc;have a6:=congrArg eh hc;simp only [Me,J5,dV,eh] at aV a6 a b
 constructor
 ·simp only [dD,hF];omega
 ·simp only [ev,hF];omega
theorem xe (op:Int) (set:List (Int × Int)) (kids:List Tree) (mn mx mode n:Int) (neg:Bool):(Tree.node op set kids mn mx mode n neg).kids=kids:=rfl
theorem Ge (t:Tree):dV t.kids + 1=dD t∧eh t.kids + 1=ev t:=by
 cases t
 constructor
 ·simp only [xe,dD];omega
 ·simp only [xe,ev]
theorem Y7 (t:Tree):dD (tY t)=dD t∧ev (tY t)=ev t:=by
 cases t
 constructor
 ·simp only [tY,dD]
 ·simp only [tY,ev]
theorem abk {o:Int} {t y:Tree} (h:xd o t=some y):ry 3 2 t y:=by
 unfold xd at h
 split at h
 ·obtain ⟨i,hi,rfl⟩:=Option.map_eq_some_iff.1 h;obtain ⟨aQ,_⟩:=List.findIdx?_eq_some_iff_getElem.1 hi
  cases t with
  | node op set kids mn mx mode n neg=>
   simp only [xe] at aQ ⊢;rw [Ch aQ]
   have:=Ge kids[i]
   exact Mh aQ (by omega) (by omega)
 ·cases h
theorem aoN {t y:Tree} (h:CY t=some y):ry 3 2 t y:=by
 unfold CY at h
 split at h
 ·obtain ⟨i,hi,rfl⟩:=Option.map_eq_some_iff.1 h;obtain ⟨aQ,_⟩:=List.findIdx?_eq_some_iff_getElem.1 hi
  cases t with
  | node op set kids mn mx mode n neg=> exact Mh aQ (by simp [dV]) (by simp [eh])
 ·cases h
theorem aoE {t y:Tree} (h:CX t=some y):ry 3 2 t y:=by
 unfold CX at h
 split at h
 ·obtain ⟨i,hi,rfl⟩:=Option.map_eq_some_iff.1 h;obtain ⟨aQ,_⟩:=aoC _ _ _ hi
  cases t with
  | node op set kids mn mx mode n neg=> exact Mh aQ (by simp [dV]) (by simp [eh])
 ·cases h
theorem ajP {t y:Tree} (h:uU t=some y):ry 3 2 t y:=by
 unfold uU at h;obtain ⟨i,hi,rfl⟩:=Option.map_eq_some_iff.1 h;obtain ⟨_,aQ,_⟩:=y8 hi
 cases t with
 | node op set kids mn mx mode n neg=>
  simp only [xe] at aQ ⊢;rw [Ch (show i < kids.length by omega),Ch aQ];have a:=Ge kids[i];have b:=Ge kids[i + 1];have c:=Hw kids[i].kids 0;have d:=Hw kids[i + 1].kids 0;have e:=Gk 2 (kids[i].kids.drop 1);have f:=Gk 2 (kids[i + 1].kids.drop 1);simp only [List.take_zero,dV,eh,Nat.zero_add] at c d;have aW:dD Tree.nil=1:=rfl;have h1:1≤dD (kids[i + 1].kids.getD 0 .nil):=adv _;refine Pr aQ ?_ ?_
  ·simp only [gE,dD,dV];omega
  ·simp only [gE,ev,eh];omega
theorem aoq {t y:Tree} (h:Bz t=some y):ry 3 2 t y:=by
 unfold Bz at h;obtain ⟨i,hi,rfl⟩:=Option.map_eq_some_iff.1 h;obtain ⟨_,aQ,_⟩:=y8 hi
 cases t with
 | node op set kids mn mx mode n neg=>
  simp only [xe] at aQ ⊢;rw [Ch (show i < kids.length by omega),Ch aQ];have a:=Ge kids[i];have b:=Ge kids[i + 1];have c:=Hw kids[i].kids (kids[i].kids.length - 1);have d:=Hw kids[i + 1].kids (kids[i + 1].kids.length - 1);have e:=Gk 2 (kids[i].kids.take (kids[i].kids.length - 1));have f:=Gk 2 (kids[i + 1].kids.take (kids[i + 1].kids.length - 1));have h1:1≤dD (kids[i + 1].kids.getD (kids[i + 1].kids.length - 1) .nil):=adv _;refine Pr aQ ?_ ?_
  ·simp only [gE,dD,dV,s6];omega
  ·simp only [gE,ev,eh,s6];omega
theorem aoJ {t y:Tree} (h:AM t=some y):ry 3 2 t y:=by
 unfold AM at h;obtain ⟨i,hi,rfl⟩:=Option.map_eq_some_iff.1 h;obtain ⟨_,aQ,_⟩:=y8 hi
 cases t with
 | node op set kids mn mx mode n neg=> exact Pr aQ (by simp only [dD,dV];omega) (by simp only [ev,eh];omega)
theorem amu {t y:Tree} (h:By t=some y):ry 3 2 t y:=by
 unfold By at h;obtain ⟨i,hi,rfl⟩:=Option.map_eq_some_iff.1 h;obtain ⟨_,aQ,_⟩:=y8 hi
 cases t with
 | node op set kids mn mx mode n neg=>
  simp only [xe] at aQ ⊢;rw [Ch (show i < kids.length by omega)];exact Pr aQ (by simp only [dD,dV];omega) (by simp only [ev,eh];omega)
theorem XA {p:Tree→Tree→Bool} {t y:Tree} (h:uS p t=some y):ry 3 2 t y:=by
 unfold uS at h;obtain ⟨i,hi,rfl⟩:=Option.map_eq_some_iff.1 h;obtain ⟨_,aQ,_⟩:=y8 hi
 cases t with
 | node op set kids mn mx mode n neg=> exact Mh (show i < kids.length by simp only [xe] at aQ;omega) (by simp [dV]) (by simp [eh])
theorem akt {t y:Tree} (h:p0 t=some y):ry 3 2 t y:=by
 cases t with
 | node op set kids mn mx mode n neg=>
  rw [p0] at h
  split at h
  ·obtain ⟨i,hi,rfl⟩:=Option.map_eq_some_iff.1 h;have aQ:i < kids.length:=akr hi;rw [Ch aQ]
   have:=Y7 kids[i]
   exact Mh aQ (by simp only [dV];omega) (by simp only [eh];omega)
  ·cases h
theorem al4 {t y:Tree} (h:CM t=some y):ry 3 2 t y:=by
 cases t with
 | node op set kids mn mx mode n neg=>
  rw [CM] at h
  split at h
  ·cases h;have:=Kg kids 0;exact ⟨by simp only [dD];omega,by simp only [ev];omega⟩
  ·cases h
theorem alw {t y:Tree} (h:CJ t=some y):ry 3 2 t y:=by
 cases t with
 | node op set kids mn mx mode n neg=>
  rw [CJ] at h
  split at h
  ·cases h;have:=Kg kids 0;exact ⟨by simp only [dD];omega,by simp only [ev];omega⟩
  ·cases h
theorem ama {t y:Tree} (h:CN t=some y):ry 3 2 t y:=by
 cases t with
 | node op set kids mn mx mode n neg=>
  rw [CN] at h
  split at h
  ·cases h;have:=Kg kids 0;have:=Y7 (kids.getD 0 .nil);exact ⟨by simp only [dD];omega,by simp only [ev];omega⟩
  ·cases h
theorem aoi {t y:Tree} (h:CW t=some y):ry 3 2 t y:=by
 cases t with
 | node op set kids mn mx mode n neg=>
  rw [CW] at h
  split at h
  ·cases h;exact ⟨by simp only [Tree.nil,dD,dV];omega,by simp only [Tree.nil,ev,eh];omega⟩
  ·cases h
theorem amq {t y:Tree} (h:rj t=some y):ry 3 2 t y:=by
 cases t with
 | node op set kids mn mx mode n neg=>
  rw [rj] at h
  split at h
  ·cases h
   have a:=Kg kids 0;have b:=Ge (kids.getD 0 .nil);have c:=Hw (kids.getD 0 .nil).kids ((kids.getD 0 .nil).kids.length - 1);have e:=Gk 2 ((kids.getD 0 .nil).kids.take ((kids.getD 0 .nil).kids.length - 1));exact ⟨by simp only [gE,dD,dV];omega,by simp only [gE,ev,eh];omega⟩
  ·cases h
theorem alS {t y:Tree} (h:sq t=some y):ry 3 2 t y:=by
 cases t with
 | node op set kids mn mx mode n neg=>
  rw [sq] at h
  split at h
  ·cases h
   have a:=Kg kids 0;have b:=Ge (kids.getD 0 .nil);exact ⟨by simp only [dD];omega,by simp only [ev];omega⟩
  ·cases h
theorem anp {r:Nat} (aO:r < 17) {t y:Tree} (h:rV r t=some y):ry 3 2 t y:=by
 obtain rfl | rfl | rfl | rfl | rfl | rfl | rfl | rfl | rfl | rfl | rfl | rfl | rfl | rfl | rfl | rfl | rfl:r=0∨r=1∨r=2∨r=3∨r=4∨r=5∨r=6∨r=7∨r=8∨r=9∨r=10∨r=11∨r=12∨r=13∨r=14∨r=15∨r=16:=by omega
 ·exact abk h
 ·exact abk h
 ·exact aoN h
 ·exact aoE h
 ·exact ajP h
 ·exact aoq h
 ·exact aoJ h
 ·exact al4 h
 ·exact alS h
 ·exact XA h
 ·exact XA h
 ·exact amu h
 ·exact akt h
 ·exact amq h
 ·exact aoi h
 ·exact alw h
 ·exact ama h
theorem amC {c d:Nat} {y:Tree}:∀ (p:List Int) {t x jl:Tree},jW t p=some x→lI t p y=some jl→ry c d x y→ry c d t jl:=by
 intro p
 induction p with
 | nil=> intro t x jl h1 h2 h;cases h1;cases h2;exact h
 | cons i r ih=>
  intro t x jl h1 h2 h;rw [jW] at h1;rw [lI] at h2
  split at h1
  ·rename_i hi
   rw [if_pos hi] at h2;obtain ⟨k,hk,rfl⟩:=Option.map_eq_some_iff.1 h2
   cases t with
   | node op set kids mn mx mode n neg=>
    simp only [xe] at hi h1 hk ⊢;have aQ:i.toNat < kids.length:=by omega
    rw [Ch aQ] at h1 hk;have hl:=ih h1 hk h;have hc:=Ud aQ;have aV:=congrArg dV hc;have a6:=congrArg eh hc;have l1:=hl.Er;have l2:=hl.Dv;simp only [Me,J5,dV,eh] at aV a6;exact ⟨by simp only [ze,dD,Me,dV];omega,by simp only [ze,ev,J5,eh];omega⟩
  ·cases h1
theorem Mg {t:Tree} {cp:Int} {ru:Bool} {r:Int} {p:List Int} {jl:Tree} {e:Int} (h:j9 t cp ru r p=(e,some jl)):(0≤r∧r < 17)∧gZ jl cp ru=0∧∃ x y,jW t p=some x∧rV r.toNat x=some y∧lI t p y=some jl:=by
 unfold j9 at h
 split at h
 ·split at h
  ·rename_i aO
   cases b8:jW t p with
   | none=> rw [b8] at h;simp [zh] at h
   | some x=>
    rw [b8] at h;simp only [zh] at h
    cases hy:rV r.toNat x with
    | none=> rw [hy] at h;simp [x9] at h
    | some y=>
     rw [hy] at h;simp only [x9] at h
     split at h
     ·simp only [sr,Prod.mk.injEq] at h
      cases hp:lI t p y with
      | none=> rw [hp] at h;simp at h
      | some z=>
       rw [hp] at h;simp only at h
       split at h
       ·rename_i da
        have aW:z=jl:=by simpa using h.2
        subst aW;exact ⟨aO,da,x,y,rfl,hy,hp⟩
       ·simp at h
     ·cases h
  ·cases h
 ·cases h
theorem adG {t:Tree} {cp:Int} {ru:Bool} {r:Int} {p:List Int} {jl:Tree} {e:Int} (h:j9 t cp ru r p=(e,some jl)):ry 3 2 t jl:=by
 obtain ⟨aO,_,x,y,b8,hy,hp⟩:=Mg h;exact amC p b8 hp (anp (by omega) hy)
theorem ad6 {t:Tree} {cp:Int} (h:gZ t cp false=0):0≤cp∧cp≤9∧j2 cp 255 t=true:=by
 unfold gZ at h;simp only [Bool.false_eq_true,if_false] at h
 by_cases h1:256 < dD t∨24 < ev t
 ·rw [if_pos h1] at h;omega
 ·rw [if_neg h1] at h
  by_cases h2:cp < 0∨9 < cp∨j2 cp 255 t=false
  ·rw [if_pos h2] at h;omega
  ·refine ⟨by omega,by omega,?_⟩
   cases h9:j2 cp 255 t with
   | true=> rfl
   | false=> exact absurd (.inr (.inr h9)) h2
theorem aoT {t:Tree} {cp:Int} (h1:dD t≤256) (h2:ev t≤24) (h3:0≤cp) (h4:cp≤9) (h5:j2 cp 255 t=true):gZ t cp false=0:=by
 unfold gZ;rw [if_neg (by omega),if_neg];simp only [Bool.false_eq_true,if_false,h5];intro k
 rcases k with k | k | k
 ·omega
 ·omega
 ·cases k
theorem ad9 {a b top:Int} (h:a≤b):∀ t:Tree,j2 a top t=true→j2 b top t=true:=by
 intro t
 induction t using Tree.nq with
 | h op set kids mn mx mode n neg ih=>
  intro k;rw [j2,Bool.and_eq_true,Pz,List.all_eq_true] at k ⊢;refine ⟨?_,fun x hx=> ih x hx (k.2 x hx)⟩;have aj:=k.1;simp only [Gl,lO,Bool.and_eq_true,Bool.not_eq_true'] at aj ⊢;obtain ⟨q1,q2,kr,ml,kK⟩:=aj;refine ⟨q1,q2,kr,?_,kK⟩;unfold lN at ml ⊢
  split
  ·rename_i hc
   rw [if_pos hc] at ml;simp only [Bool.or_eq_false_iff,decide_eq_false_iff_not] at ml ⊢;omega
  ·rename_i hc
   rw [if_neg hc] at ml;exact ml
def oU (p ae:Tree):Tree:=.node 3 [] [p,ae] 0 0 0 0 false
theorem ao4 {c:Int} {p ae:Tree} (h1:j2 c 255 p=true) (h2:j2 c 255 ae=true):j2 c 255 (oU p ae)=true:=by
 rw [oU,j2,Bool.and_eq_true];refine ⟨?_,by simp only [Mo,h1,h2,Bool.and_self]⟩;simp only [Gl,lO,Tree.op,Tree.set,xe,Tree.mn,Tree.mx,Tree.mode,Tree.n,Tree.neg,List.length_nil,List.length_cons];simp [pY,ob,sf,rD,lN]
def wG (k:Nat) (t:Tree):Prop:=dD t≤80 + k∧ev t≤18 + k
theorem Mm {a b c:Int} {p ae:Tree} (hp:gZ p a false=0) (hq:gZ ae b false=0) (hc:c=max a b) (mp:wG 3 p) (alH:wG 3 ae):gZ (oU p ae) c false=0:=by
 obtain ⟨a1,a2,a3⟩:=ad6 hp;obtain ⟨b1,b2,b3⟩:=ad6 hq;obtain ⟨p1,p2⟩:=mp;obtain ⟨q1,q2⟩:=alH;exact aoT (by simp only [oU,dD,dV];omega) (by simp only [oU,ev,eh];omega) (by omega) (by omega) (ao4 (ad9 (by omega) p a3) (ad9 (by omega) ae b3))
theorem amA (p ae x:Tree):lI (oU p ae) [0] x=some (oU x ae):=by
 simp [lI,oU,xe,ze]
theorem amB (p ae x:Tree):lI (oU p ae) [1] x=some (oU p x):=by
 simp [lI,oU,xe,ze]
theorem adH {t:Tree} {cp:Int} {ru:Bool} {r:Int} {p:List Int} {jl x y:Tree} (da:gZ t cp ru=0) (aO:0≤r∧r < 17) (b8:jW t p=some x) (hy:rV r.toNat x=some y) (hp:lI t p y=some jl) (m9:gZ jl cp ru=0):j9 t cp ru r p=(0,some jl):=by
 have h:sr t cp ru p y=some jl:=by simp only [sr,hp,m9,if_true]
 simp only [j9];rw [if_pos da,if_pos aO,b8];simp only [zh,hy,x9,h,Option.isSome_some,if_true]
theorem adE {a b c:Int} {p ae vi:Tree} {r:Int} {path:List Int} {e:Int} (hp:gZ p a false=0) (hq:gZ ae b false=0) (hc:c=max a b) (h:j9 p a false r path=(e,some vi)) (m1:wG 3 p) (m2:wG 3 ae) (m3:wG 3 vi):j9 (oU p ae) c false r (0::path)=(0,some (oU vi ae)):=by
 obtain ⟨aO,da,x,y,b8,hy,ht⟩:=Mg h;refine adH (Mm hp hq hc m1 m2) aO (x:=x) (y:=y) ?_ hy ?_ (Mm da hq hc m3 m2)
 ·simp only [jW,oU,xe,List.length_cons,List.length_nil,List.getD_cons_zero,Int.toNat_zero];rw [if_pos (by omega),b8]
 ·simp only [lI,oU,xe,List.length_cons,List.length_nil,List.getD_cons_zero,Int.toNat_zero];rw [if_pos (by omega),ht];simp [ze]
theorem adF {a b c:Int} {p ae q':Tree} {r:Int} {path:List Int} {e:Int} (hp:gZ p a false=0) (hq:gZ ae b false=0) (hc:c=max a b) (h:j9 ae b false r path=(e,some q')) (m1:wG 3 p) (m2:wG 3 ae) (m3:wG 3 q'):j9 (oU p ae) c false r (1::path)=(0,some (oU p q')):=by
 obtain ⟨aO,da,x,y,b8,hy,ht⟩:=Mg h;have h1:(0:Int)≤1∧(1:Int) < ((oU p ae).kids.length:Int):=by simp [oU,xe]
 have h2:(oU p ae).kids.getD (Int.toNat 1) .nil=ae:=rfl;refine adH (Mm hp hq hc m1 m2) aO (x:=x) (y:=y) ?_ hy ?_ (Mm hp da hc m1 m3)
 ·rw [jW,if_pos h1,h2];exact b8
 ·rw [lI,if_pos h1,h2,ht]
  rfl
theorem amd {a b c:Int} {p ae vi q':Tree} {ju iz:Int} {UB UC:List Int} {aV a6:Int} (hp:gZ p a false=0) (hq:gZ ae b false=0) (hc:c=max a b) (h1:j9 p a false ju UB=(aV,some vi)) (h2:j9 ae b false iz UC=(a6,some q')) (m1:wG 0 p) (m2:wG 0 ae):
  rk (oU p ae) c false [(ju,0::UB),(iz,1::UC)]=(0,some (oU vi q'))∧rk (oU p ae) c false [(iz,1::UC),(ju,0::UB)]=(0,some (oU vi q')):=by
 have g1:=adG h1;have g2:=adG h2;have v1:=(Mg h1).2.1;have v2:=(Mg h2).2.1;obtain ⟨a1,a2⟩:=m1;obtain ⟨b1,b2⟩:=m2;obtain ⟨c1,c2⟩:=g1;obtain ⟨d1,d2⟩:=g2;have p1:wG 3 p:=⟨by omega,by omega⟩;have q1:wG 3 ae:=⟨by omega,by omega⟩;have p2:wG 3 vi:=⟨by omega,by omega⟩;have q2:wG 3 q':=⟨by omega,by omega⟩;have da:=Mm hp hq hc p1 q1
 constructor
 ·rw [rk,if_pos da];simp only [pb,adE hp hq hc h1 p1 q1 p2,adF v1 hq hc h2 p2 q1 q2]
 ·rw [rk,if_pos da];simp only [pb,adF hp hq hc h2 p1 q1 q2,adE hp v2 hc h1 p1 q2 p2]
theorem El {w:World} {g T:Nat} {u0 u1:Value} (h:w.heap[g]? =some (.cells #[u0,u1] T (0,0))):w.cell? ⟨g,0,none⟩=some u0∧w.cell? ⟨g,1,none⟩=some u1:=by constructor <;> simp [World.cell?,h]
theorem adK {t:Tree} {cp:Int} {ru:Bool} {s:Int × List Int} (h:s∈ug t cp ru):s.2.length≤t.bm:=by
 obtain ⟨p,hp,hs⟩:=List.mem_flatMap.1 h;obtain ⟨r,aO,rfl,cm⟩:=UZ _ hs;exact (x5 t).2 p hp
theorem anN {w:World} {g T:Nat} {u0 u1 u2 u3 u4 u5 u6 u7:Value} (h:w.heap[g]? =some (.cells #[u0,u1,u2,u3,u4,u5,u6,u7] T (0,0))) (v0 v1 v2 v3 v4 v5 v6 v7:Value):(hE w g v0 v1 v2 v3 v4 v5 v6 v7).heap[g]? =some (.cells #[v0,v1,v2,v3,v4,v5,v6,v7] T (0,0)):=by
 have h0:(w.setCell ⟨g,0,none⟩ v0).heap[g]? =some (.cells #[v0,u1,u2,u3,u4,u5,u6,u7] T (0,0)):=heap_setCell_same _ g 0 _ T v0 h;have h1:((w.setCell ⟨g,0,none⟩ v0).setCell ⟨g,1,none⟩ v1).heap[g]? =some (.cells #[v0,v1,u2,u3,u4,u5,u6,u7] T (0,0)):=heap_setCell_same _ g 1 _ T v1 h0;have h2:(((w.setCell ⟨g,0,none⟩ v0).setCell ⟨g,1,none⟩ v1).setCell ⟨g,2,none⟩ v2).heap[g]? =some (.cells #[v0,v1,v2,u3,u4,u5,u6,u7] T (0,0)):=heap_setCell_same _ g 2 _ T v2 h1;have h3:((((w.setCell ⟨g,0,none⟩ v0).setCell ⟨g,1,none⟩ v1).setCell ⟨g,2,none⟩ v2).setCell ⟨g,3,none⟩ v3).heap[g]? =some (.cells #[v0,v1,v2,v3,u4,u5,u6,u7] T (0,0)):=heap_setCell_same _ g 3 _ T v3 h2;have h4:(((((w.setCell ⟨g,0,none⟩ v0).setCell ⟨g,1,none⟩ v1).setCell ⟨g,2,none⟩ v2).setCell ⟨g,3,none⟩ v3).setCell ⟨g,4,none⟩ v4).heap[g]? =some (.cells #[v0,v1,v2,v3,v4,u5,u6,u7] T (0,0)):=heap_setCell_same _ g 4 _ T v4 h3;have h5:((((((w.setCell ⟨g,0,none⟩ v0).setCell ⟨g,1,none⟩ v1).setCell ⟨g,2,none⟩ v2).setCell ⟨g,3,none⟩ v3).setCell ⟨g,4,none⟩ v4).setCell ⟨g,5,none⟩ v5).heap[g]? =some (.cells #[v0,v1,v2,v3,v4,v5,u6,u7] T (0,0)):=heap_setCell_same _ g 5 _ T v5 h4;have eW:(((((((w.setCell ⟨g,0,none⟩ v0).setCell ⟨g,1,none⟩ v1).setCell ⟨g,2,none⟩ v2).setCell ⟨g,3,none⟩ v3).setCell ⟨g,4,none⟩ v4).setCell ⟨g,5,none⟩ v5).setCell ⟨g,6,none⟩ v6).heap[g]? =some (.cells #[v0,v1,v2,v3,v4,v5,v6,u7] T (0,0)):=heap_setCell_same _ g 6 _ T v6 h5;have h7:((((((((w.setCell ⟨g,0,none⟩ v0).setCell ⟨g,1,none⟩ v1).setCell ⟨g,2,none⟩ v2).setCell ⟨g,3,none⟩ v3).setCell ⟨g,4,none⟩ v4).setCell ⟨g,5,none⟩ v5).setCell ⟨g,6,none⟩ v6).setCell ⟨g,7,none⟩ v7).heap[g]? =some (.cells #[v0,v1,v2,v3,v4,v5,v6,v7] T (0,0)):=heap_setCell_same _ g 7 _ T v7 eW;exact h7
theorem ajb {lo b n:Nat} (h:b∈([]:List Nat)∨lo≤b) (hn:lo=n):n≤b:=by
 rcases h with h | h
 ·exact absurd h List.not_mem_nil
 ·omega
end Go.Proofs.YtjnlkjlbejelgaaGreat
