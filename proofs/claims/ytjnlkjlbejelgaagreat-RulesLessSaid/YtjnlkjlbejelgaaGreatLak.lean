/- Part 11 of the proof. No condition: every lemma says its own. -/
import Derived.BigQuiet
import Derived.Deep.LoopGhost
import Derived.OpenShut
import Derived.Test.YtjnlkjlbejelgaaGreatLag
import Derived.Test.YtjnlkjlbejelgaaGreatLaj
import Derived.Test.YtjnlkjlbejelgaaGreatProg
import Derived.Test.YtjnlkjlbejelgaaGreatLaa
namespace Go.Proofs.YtjnlkjlbejelgaaGreat
open Go.RowKit
open Go.Value renaming int→H,slice→M,bool→F
open Go.IntKind renaming i64→J
set_option maxRecDepth 100000
set_option maxHeartbeats 16000000
theorem RulePost.any {w:World} {src:List Nat} {o:Option Tree} {e:Ending} {w':World} (h:RulePost w src o e w'):∃ r:MRe,e=.returned (.tuple #[r.val,F o.isSome])∧r.tree=o.getD Tree.nil∧r.OK w'∧Keeps [] w w'∧From w.heap.size src r.blocks:=by
 cases o with
 | none=> exact ⟨MRe.nil,h.1,rfl,MRe.OK.nil _,h.2,by intro b hb;simp [MRe.nil,MRe.blocks,MRe.blocksL,blockIf] at hb⟩
 | some t=>
  obtain ⟨r,he,ht,ho,hk,hf⟩:=h;exact ⟨r,he,ht,ho,hk,hf⟩
def AnyPost (w:World) (src:List Nat) (o:Option Tree) (e:Ending) (w':World):Prop:=∃ r:MRe,e=.returned (.tuple #[r.val,F o.isSome])∧r.tree=o.getD Tree.nil∧r.OK w'∧Keeps [] w w'∧From w.heap.size src r.blocks
def ApplyPost (w:World) (o:Option Tree) (e:Ending) (w':World):Prop:=
 ∃ r:MRe,e=.returned (.tuple #[r.val,F o.isSome])∧r.tree=o.getD Tree.nil∧r.OK w'∧Keeps [] w w'∧Fresh w.heap.size r.blocks
theorem cell_of_row {w:World} {g T:Nat} {v:Value} (h:w.heap[g]? =some (.cells #[v] T (0,0))):w.cell? ⟨g,0,none⟩=some v:=by
 simp [World.cell?,h]
theorem apply_rule (r:Nat) (o:Option Tree) (m:MRe) (w:World) (hr:r < 17) (k1:m.OK w) (he:Enters (ruleFn r)) (hb:∀ t,o=some t→t.bulk≤1000000)
  (hrule:∀ W,Keeps [] w W→Calls Tryz.prog (ruleFn r) #[m.val] W (RulePost W m.blocks o)):
  Calls Tryz.prog 11 #[H J r,m.val] w (ApplyPost w o):=by
 have hmf:∀ (fn:Fn) (first cap:Array Value) (w:World),(Instr.makeFunc fn first cap).run Tryz.prog w=.ok (.func fn first cap) w:=fun _ _ _ _=> rfl;have HRU:=gi (fun (W:World) (h:Keeps [] w W)=> (show Calls Tryz.prog (ruleFn r) #[m.val] W (AnyPost W m.blocks o) from Calls.mono (hrule W h) fun _ _ h=> RulePost.any h));have HLT:=gi k1.block_lt;have HB:=gi hb;unfold Enters at he;obtain ⟨op,sa,sc,set,ka,kc,kids,mn,mx,mode,n,neg⟩:=m;simp only [MRe.val] at HRU ⊢;obtain ⟨F',hF⟩:∃ F',F'=ruleFn r:=⟨_,rfl⟩;rw [←hF] at HRU he;have HF:=gi hF;obtain ⟨B,hBe⟩:∃ B,B=w.heap.size:=⟨_,rfl⟩;clear k1 hrule hb hF
 go_enter_defers Tryz.func11,Tryz.ntmps11
 go_wp2_with fail
 refine Calls.mono (table_any _) ?_;rintro e w2 ⟨g,rfl,htab,hk,hg⟩;have hz:w2.heap[w.heap.size + 1]? =some (.cells #[H J 0,M none 0 0,M none 0 0,H J 0,H J 0,H J 0,H J 0,F false] 26 (0,0)):=hk.heap ((Keeps.a1 _ _).heap (heap_alloc2_new w _ _) (by simp)) (by simp);have hb:w2.heap[w.heap.size + 2]? =some (.cells #[F false] 4 (0,0)):=hk.heap (by have h:=heap_alloc_new ((w.alloc (.cells #[H J op,M sa set.length sc,M ka kids.length kc,H J mn,H J mx,H J mode,H J n,F neg] 26)).alloc (.cells #[H J 0,M none 0 0,M none 0 0,H J 0,H J 0,H J 0,H J 0,F false] 26)) (.cells #[F false] 4);simpa using h) (by simp);have hx:w2.heap[w.heap.size]? =some (.cells #[H J op,M sa set.length sc,M ka kids.length kc,H J mn,H J mx,H J mode,H J n,F neg] 26 (0,0)):=hk.heap ((Keeps.a2 (w.alloc (.cells #[H J op,M sa set.length sc,M ka kids.length kc,H J mn,H J mx,H J mode,H J n,F neg] 26)) _ _).heap (heap_alloc_new w _) (by simp)) (by simp);have hs2:w.heap.size + 3≤w2.heap.size:=by have:=hk.size;simpa using this
 have hgB:w.heap.size + 3≤g:=by simpa using hg
 have K2:=gi ((Keeps.a3 w _ _ _).trans hk);rw [←hBe] at hz hb hx hs2 hgB ⊢;obtain ⟨c0,c1,c2,c3,c4,c5,c6,c7⟩:=row_cells hx;have ht:=table_cell htab r hr;rw [←HF.o] at ht;have HZ:=gi hz;have HBL:=gi hb;have HBE:=gi hBe;have hr0:(0:Int)≤(r:Int):=by omega
 have hr1:¬ (r:Int) < 0:=by omega
 have hr2:(r:Int) < 17:=by omega
 have hr3:¬ (17:Int)≤(r:Int):=by omega
 have HGB:=gi hgB;have HS2:=gi hs2;clear htab hk hg hz hb hBe hx hgB hs2;go_upto_region 5 with fail
 go_cut [7] from 19 to 28 (fun s7 wx=> ∃ (g7:Nat) (r:MRe) (V:World),V=wx∧s7=.pointer (some ⟨g7,0,none⟩)∧r.tree=o.getD .nil∧r.OK V∧Keeps [B + 2] w2 V∧V.heap[g7]? =some (.cells r.row.toArray 26 (0,0))∧V.heap[B + 2]? =some (.cells #[F o.isSome] 4 (0,0))∧w2.heap.size≤g7)
 case first=>
  refine wp_region_noPanic ?_;refine rg (S:=fun w'=> w'.cell? ⟨g,r * 2 + 1,none⟩=some (.func (Fn.func F') #[] #[])∧(w'.cell? ⟨B,0,none⟩=some (H J op)∧w'.cell? ⟨B,1,none⟩=some (M sa set.length sc)∧w'.cell? ⟨B,2,none⟩=some (M ka kids.length kc)∧w'.cell? ⟨B,3,none⟩=some (H J mn)∧w'.cell? ⟨B,4,none⟩=some (H J mx)∧w'.cell? ⟨B,5,none⟩=some (H J mode)∧w'.cell? ⟨B,6,none⟩=some (H J n)∧w'.cell? ⟨B,7,none⟩=some (F neg))) (fun _ k=> ⟨k.c ht,k.c c0,k.c c1,k.c c2,k.c c3,k.c c4,k.c c5,k.c c6,k.c c7⟩) fun kz hHeld=> ?_;refine tk 0 ?_;refine tk 1 ?_;refine tk 2 ?_;refine tk 3 ?_;refine tk 4 ?_;refine tk 5 ?_;refine j7 6 10 (fun K hK=> ?_) fun K hK=> ?_
  ·go_simp;refine Calls.mono (HRU.o _ (K2.o.drew)) ?_;rintro e w3 ⟨q,rfl,hqt,hqo,hk3,hqf⟩;have K3:=gi (((Keeps.refl [] w2).drew).trans hk3);have QT:=gi hqt;have QO:=gi hqo;have QF:=gi hqf;obtain ⟨q0,hq0⟩:∃ q0,q0=q:=⟨_,rfl⟩;rw [←hq0] at QT QO QF;have Q0:=gi hq0;obtain ⟨op9,sa9,sc9,set9,ka9,kc9,kids9,mn9,mx9,mode9,n9,neg9⟩:=q;simp only [MRe.val];have hz7:=heap_alloc_new w3 (.cells #[H J 0,M none 0 0,M none 0 0,H J 0,H J 0,H J 0,H J 0,F false] 26);have KA:=gi (K3.o.trans (Keeps.a1 w3 (.cells #[H J 0,M none 0 0,M none 0 0,H J 0,H J 0,H J 0,H J 0,F false] 26)));obtain ⟨z0,z1,z2,z3,z4,z5,z6,z7⟩:=row_cells hz7;have zf:=row_frozen hz7;have HZ7:=gi hz7;clear hk3 hqt hqo hqf hq0 hz7;refine hK.out _ _ (kz.o _ K3.o) fun hHeld=> ?_;clear hK K;try go_frame
   refine tk 7 ?_;refine tk 8 ?_;refine tk 9 ?_;refine j6 10 fun K hK=> ?_;go_simp;refine hK.out _ _ (kz.o _ KA.o) fun hHeld=> ?_;clear hK K;try go_frame
   refine j6 11 fun K hK=> ?_;go_simp;have KV:=gi (K3.o.trans (Keeps.a1 w3 (.cells #[H J op9,M sa9 set9.length sc9,M ka9 kids9.length kc9,H J mn9,H J mx9,H J mode9,H J n9,F neg9] 26)));have HBV:=gi (KV.o.h HBL.o);have b0:=cell_of_row HBV.o;have bf:=row_frozen HBV.o;clear z0 z1 z2 z3 z4 z5 z6 z7 zf;refine hK.out _ _ (kz.o _ KV.o) fun hHeld=> ?_;clear hK K;try go_frame
   refine j6 12 fun K hK=> ?_;go_simp;have kS:=(Keeps.refl [B + 2] (w3.alloc (.cells #[H J op9,M sa9 set9.length sc9,M ka9 kids9.length kc9,H J mn9,H J mx9,H J mode9,H J n9,F neg9] 26))).setCell (p:=⟨B + 1 + 1,0,none⟩) (.inl (by simp)) (F o.isSome);have KS:=gi kS;have KT:=gi ((KV.o.mono (S':=[B + 2]) (by simp)).trans kS);clear kS b0 bf;refine hK.out _ _ (⟨KT.o.cell ht (by have:=HGB.o;simp;omega),KT.o.c c0,KT.o.c c1,KT.o.c c2,KT.o.c c3,KT.o.c c4,KT.o.c c5,KT.o.c c6,KT.o.c c7⟩) (fun hHeld=> ?_);clear hK K;try go_frame
   refine wd ?_;refine NoPanic.normal ?_;go_wp2;go_meet;have hs2:=HS2.o;have hs3:=K3.o.size;refine ⟨w3.heap.size,q0,_,rfl,rfl,QT.o,(QO.o.keep (Keeps.a1 w3 _)).keepS KS.o fun x hx=> ?_,KT.o,?_,heap_setCell_same _ (B + 1 + 1) 0 _ _ _ HBV.o,hs3⟩
   ·rcases QF.o x hx with h | h
    ·have:=HLT.o x h;have:=HBE.o;simp;omega
    ·have:w2.heap.size≤x:=h;simp;omega
   ·rw [Q0.o];exact KS.o.heap (heap_alloc_new w3 _) (by simp;omega)
  ·go_simp;have KA:=gi (((Keeps.refl [] w2).drew).alloc (.cells #[H J 0,M none 0 0,M none 0 0,H J 0,H J 0,H J 0,H J 0,F false] 26));refine hK.out _ _ (kz.o _ KA.o) fun hHeld=> ?_;clear hK K;try go_frame
   refine j6 6 fun K hK=> ?_;go_simp;refine Calls.mono (HRU.o _ ((K2.o.drew).alloc _)) ?_;rintro e w3 ⟨q,rfl,hqt,hqo,hk3,hqf⟩;have K3:=gi (KA.o.trans hk3);have QT:=gi hqt;have QO:=gi hqo;have QF:=gi hqf;obtain ⟨q0,hq0⟩:∃ q0,q0=q:=⟨_,rfl⟩;rw [←hq0] at QT QO QF;have Q0:=gi hq0;obtain ⟨op9,sa9,sc9,set9,ka9,kc9,kids9,mn9,mx9,mode9,n9,neg9⟩:=q;simp only [MRe.val];have hz7:=hk3.heap (heap_alloc_new w2.drew (.cells #[H J 0,M none 0 0,M none 0 0,H J 0,H J 0,H J 0,H J 0,F false] 26)) (by simp);have hz7:w3.heap[w2.heap.size]? =some (.cells #[H J 0,M none 0 0,M none 0 0,H J 0,H J 0,H J 0,H J 0,F false] 26 (0,0)):=hz7;obtain ⟨z0,z1,z2,z3,z4,z5,z6,z7⟩:=row_cells hz7;have zf:=row_frozen hz7;have HZ7:=gi hz7;clear hk3 hqt hqo hqf hq0 hz7;refine hK.out _ _ (kz.o _ K3.o) fun hHeld=> ?_;clear hK K;try go_frame
   refine tk 7 ?_;refine tk 8 ?_;refine tk 9 ?_;refine j6 11 fun K hK=> ?_;go_simp;have k8:=set8_keeps w3 w2.heap.size (H J op9) (M sa9 set9.length sc9) (M ka9 kids9.length kc9) (H J mn9) (H J mx9) (H J mode9) (H J n9) (F neg9);have hs2:=HS2.o;have K8:=gi k8;have KV:=gi (K3.o.after k8 (by intro x hx;simp at hx;subst hx;exact .inr (Nat.le_refl _)));have HBV:=gi (KV.o.h HBL.o);have b0:=cell_of_row HBV.o;have bf:=row_frozen HBV.o;clear z0 z1 z2 z3 z4 z5 z6 z7 zf k8;refine hK.out _ _ (kz.o _ KV.o) fun hHeld=> ?_;clear hK K;try go_frame
   refine j6 12 fun K hK=> ?_;go_simp;have kS:=(Keeps.refl [B + 2] (set8 w3 w2.heap.size (H J op9) (M sa9 set9.length sc9) (M ka9 kids9.length kc9) (H J mn9) (H J mx9) (H J mode9) (H J n9) (F neg9))).setCell (p:=⟨B + 1 + 1,0,none⟩) (.inl (by simp)) (F o.isSome);have KS:=gi kS;have KT:=gi ((KV.o.mono (S':=[B + 2]) (by simp)).trans kS);clear kS b0 bf;refine hK.out _ _ (⟨KT.o.cell ht (by have:=HGB.o;simp;omega),KT.o.c c0,KT.o.c c1,KT.o.c c2,KT.o.c c3,KT.o.c c4,KT.o.c c5,KT.o.c c6,KT.o.c c7⟩) (fun hHeld=> ?_);clear hK K;try go_frame
   refine wd ?_;refine NoPanic.normal ?_;go_wp2;go_meet;have hlt3:=QO.o.block_lt;refine ⟨w2.heap.size,q0,_,rfl,rfl,QT.o,(QO.o.keepS K8.o fun x hx=> ?_).keepS KS.o fun x hx=> ?_,KT.o,?_,heap_setCell_same _ (B + 1 + 1) 0 _ _ _ HBV.o,Nat.le_refl _⟩
   ·rcases QF.o x hx with h | h
    ·have:=HLT.o x h;have:=HBE.o;simp;omega
    ·have h:w2.heap.size + 1≤x:=by simpa using h
     simp;omega
   ·rcases QF.o x hx with h | h
    ·have:=HLT.o x h;have:=HBE.o;simp;omega
    ·have h:w2.heap.size + 1≤x:=by simpa using h
     simp;omega
   ·rw [Q0.o];exact KS.o.heap (set8_heap HZ7.o _ _ _ _ _ _ _ _) (by simp;omega)
 case rest=>
  obtain ⟨g7,rr,V,rfl,rfl,hrt,hro,hkV,hg7,hB2,hle⟩:=hcut;have HRT:=gi hrt;have HRO:=gi hro;have KV:=gi hkV;have HZV:=gi (hkV.h HZ.o);have HBV:=gi hB2;have KW:=gi (K2.o.after hkV (by intro x hx;simp at hx;subst hx;exact .inr (by have:=HBE.o;omega)));obtain ⟨r0,hr0'⟩:∃ r0,r0=rr:=⟨_,rfl⟩;rw [←hr0'] at HRT HRO;have R0:=gi hr0';obtain ⟨op9,sa9,sc9,set9,ka9,kc9,kids9,mn9,mx9,mode9,n9,neg9⟩:=rr;obtain ⟨d0,d1,d2,d3,d4,d5,d6,d7⟩:=row_cells (v0:=H J op9) (v1:=M sa9 set9.length sc9) (v2:=M ka9 kids9.length kc9) (v3:=H J mn9) (v4:=H J mx9) (v5:=H J mode9) (v6:=H J n9) (v7:=F neg9) hg7;have b0:V.cell? ⟨B + 1 + 1,0,none⟩=some (F o.isSome):=cell_of_row hB2;have bf:∀ o,V.frozen? ⟨B + 1 + 1,o,none⟩=false:=row_frozen hB2;clear hrt hro hkV hg7 hB2 hle hr0' c0 c1 c2 c3 c4 c5 c6 c7 ht
  cases o with
  | none=>
   have b0:V.cell? ⟨B + 1 + 1,0,none⟩=some (F false):=b0;obtain ⟨z0,z1,z2,z3,z4,z5,z6,z7,zf⟩:=zero_cells HZV.o;go_wp2;refine leaves_cons (f:=44) (args:=#[.pointer (some ⟨B + 1,0,none⟩),.pointer (some ⟨B + 1 + 1,0,none⟩)]) (by simp) (by simp [go_sem]) ?_;refine (catch_idle ⟨B + 1,0,none⟩ ⟨B + 1 + 1,0,none⟩ _).mono ?_;rintro e u' w'' ⟨rfl,rfl,rfl⟩;have hs8:=set8_heap HZV.o (H J 0) (M none 0 0) (M none 0 0) (H J 0) (H J 0) (H J 0) (H J 0) (F false);have hk8:=set8_keeps V (B + 1) (H J 0) (M none 0 0) (M none 0 0) (H J 0) (H J 0) (H J 0) (H J 0) (F false);have hR:=(heap_setCell_other (set8 V (B + 1) (H J 0) (M none 0 0) (M none 0 0) (H J 0) (H J 0) (H J 0) (H J 0) (F false)) ⟨B + 1 + 1,0,none⟩ (B + 1) (F false) (by simp)).trans hs8;have hVb:=heap_setCell_same _ (B + 1 + 1) 0 _ 4 (F false) (hk8.h HBV.o);have hkk:=(KW.o.after hk8 (by intro x hx;simp at hx;subst hx;exact .inr (by have:=HBE.o;omega))).after ((Keeps.refl [B + 1 + 1] (set8 V (B + 1) (H J 0) (M none 0 0) (M none 0 0) (H J 0) (H J 0) (H J 0) (H J 0) (F false))).setCell (p:=⟨B + 1 + 1,0,none⟩) (.inl (by simp)) (F false)) (by intro x hx;simp at hx;subst hx;exact .inr (by have:=HBE.o;omega));refine ⟨_,results_row_cell rfl _ _ (B + 1) 26 #[H J 0,M none 0 0,M none 0 0,H J 0,H J 0,H J 0,H J 0,F false] (0,0) _ rfl hR Tryz.underlying26 rfl sizeRe ⟨B + 1 + 1,0,none⟩ (F false) rfl ?_,?_⟩
   ·have hc:((set8 V (B + 1) (H J 0) (M none 0 0) (M none 0 0) (H J 0) (H J 0) (H J 0) (H J 0) (F false)).setCell ⟨B + 1 + 1,0,none⟩ (F false)).cell? ⟨B + 1 + 1,0,none⟩=some (F false):=by simp only [World.cell?,hVb];rfl
    with_reducible exact run_loadVar_bool hc
   ·exact ⟨MRe.nil,rfl,rfl,MRe.OK.nil _,hkk,by intro b hb;simp [MRe.nil,MRe.blocks,MRe.blocksL,blockIf] at hb⟩
  | some t=>
   have b0:V.cell? ⟨B + 1 + 1,0,none⟩=some (F true):=b0;have hcl:=rclone_any r0 V HRO.o (by rw [HRT.o];exact HB.o t rfl);rw [R0.o] at hcl;rw [show (MRe.tree (.node op9 sa9 sc9 set9 ka9 kc9 kids9 mn9 mx9 mode9 n9 neg9))=r0.tree by rw [R0.o]] at hcl;rw [show (.node op9 sa9 sc9 set9 ka9 kc9 kids9 mn9 mx9 mode9 n9 neg9:MRe).val=.agg #[H J op9,M sa9 set9.length sc9,M ka9 kids9.length kc9,H J mn9,H J mx9,H J mode9,H J n9,F neg9] from rfl] at hcl;have HCL:=gi hcl;clear hcl;go_wp2_with fail
   refine Calls.mono HCL.o ?_;rintro e w8 ⟨p,rfl,hpt,hpo,hk8',hpf⟩;have KW:=gi (KW.o.trans hk8');have HZ8:=gi (hk8'.h HZV.o);have HB8:=gi (hk8'.h HBV.o);obtain ⟨z0,z1,z2,z3,z4,z5,z6,z7,zf⟩:=zero_cells HZ8.o;have b1:w8.cell? ⟨B + 1 + 1,0,none⟩=some (F true):=cell_of_row HB8.o;have bg:∀ o,w8.frozen? ⟨B + 1 + 1,o,none⟩=false:=row_frozen HB8.o;obtain ⟨p0,hp0⟩:∃ p0,p0=p:=⟨_,rfl⟩;rw [←hp0] at hpt hpo hpf;have P0:=gi hp0;have PT:=gi hpt;have PO:=gi hpo;have PF:=gi hpf;clear hpt hpo hpf hp0 hk8' b0 bf d0 d1 d2 d3 d4 d5 d6 d7;obtain ⟨op5,sa5,sc5,set5,ka5,kc5,kids5,mn5,mx5,mode5,n5,neg5⟩:=p;simp only [MRe.val];go_wp2;refine leaves_cons (f:=44) (args:=#[.pointer (some ⟨B + 1,0,none⟩),.pointer (some ⟨B + 1 + 1,0,none⟩)]) (by simp) (by simp [go_sem]) ?_;refine (catch_idle ⟨B + 1,0,none⟩ ⟨B + 1 + 1,0,none⟩ _).mono ?_;rintro e u' w'' ⟨rfl,rfl,rfl⟩;have hs8:=set8_heap HZ8.o (H J op5) (M sa5 set5.length sc5) (M ka5 kids5.length kc5) (H J mn5) (H J mx5) (H J mode5) (H J n5) (F neg5);have hk8:=set8_keeps w8 (B + 1) (H J op5) (M sa5 set5.length sc5) (M ka5 kids5.length kc5) (H J mn5) (H J mx5) (H J mode5) (H J n5) (F neg5);have hR:=(heap_setCell_other (set8 w8 (B + 1) (H J op5) (M sa5 set5.length sc5) (M ka5 kids5.length kc5) (H J mn5) (H J mx5) (H J mode5) (H J n5) (F neg5)) ⟨B + 1 + 1,0,none⟩ (B + 1) (F true) (by simp)).trans hs8;have hVb:=heap_setCell_same _ (B + 1 + 1) 0 _ 4 (F true) (hk8.h HB8.o);have hkk:=(KW.o.after hk8 (by intro x hx;simp at hx;subst hx;exact .inr (by have:=HBE.o;omega))).after ((Keeps.refl [B + 1 + 1] (set8 w8 (B + 1) (H J op5) (M sa5 set5.length sc5) (M ka5 kids5.length kc5) (H J mn5) (H J mx5) (H J mode5) (H J n5) (F neg5))).setCell (p:=⟨B + 1 + 1,0,none⟩) (.inl (by simp)) (F true)) (by intro x hx;simp at hx;subst hx;exact .inr (by have:=HBE.o;omega));refine ⟨_,results_row_cell rfl _ _ (B + 1) 26 #[H J op5,M sa5 set5.length sc5,M ka5 kids5.length kc5,H J mn5,H J mx5,H J mode5,H J n5,F neg5] (0,0) _ rfl hR Tryz.underlying26 rfl sizeRe ⟨B + 1 + 1,0,none⟩ (F true) rfl ?_,?_⟩
   ·have hc:((set8 w8 (B + 1) (H J op5) (M sa5 set5.length sc5) (M ka5 kids5.length kc5) (H J mn5) (H J mx5) (H J mode5) (H J n5) (F neg5)).setCell ⟨B + 1 + 1,0,none⟩ (F true)).cell? ⟨B + 1 + 1,0,none⟩=some (F true):=by simp only [World.cell?,hVb];rfl
    with_reducible exact run_loadVar_bool hc
   ·have hs2:=HS2.o;have hsV:=KV.o.size;have hbe:=HBE.o;have hfr:∀ x∈p0.blocks,w2.heap.size≤x:=fun x hx=> Nat.le_trans hsV (PF.o x hx);refine ⟨p0,by rw [P0.o];rfl,by rw [PT.o,HRT.o],(PO.o.keepS hk8 fun x hx=> ?_).keepS ((Keeps.refl [B + 1 + 1] (set8 w8 (B + 1) (H J op5) (M sa5 set5.length sc5) (M ka5 kids5.length kc5) (H J mn5) (H J mx5) (H J mode5) (H J n5) (F neg5))).setCell (p:=⟨B + 1 + 1,0,none⟩) (.inl (by simp)) (F true)) fun x hx=> ?_,hkk,fun x hx=> ?_⟩
    ·have:=hfr x hx;simp;omega
    ·have:=hfr x hx;simp;omega
    ·have:=hfr x hx;omega
def IntsIn (w:World) (ao:Option Addr) (xs:List Int):Prop:=0 < xs.length→∃ b off,ao=some ⟨b,off,none⟩∧∀ j,j < xs.length→w.cell? ⟨b,off + j,none⟩=some (H J (xs.getD j 0))
theorem Ints.to_in {E:Nat} {w:World} {b:Nat} {xs:List Int} (h:Ints E w b xs):IntsIn w (some ⟨b,0,none⟩) xs:=fun _=> ⟨b,0,rfl,fun j hj=> by rw [Nat.zero_add,h.cell j hj];simp [hj]⟩
theorem SliceAt.to_in {w:World} {e:Nat} {a:Option Nat} {c:Nat} {xs:List Int} {n:Nat} (h:SliceAt w e 1 a n c (xs.map (H J))):IntsIn w (a.map fun g=> ⟨g,0,none⟩) xs:=fun h0=> by
 cases a with
 | none=> exfalso;have:=h.1;obtain ⟨_,h2,_⟩:=h;simp at this;omega
 | some g=> exact ⟨g,0,rfl,fun j hj=> by rw [Nat.zero_add,h.cell j (by simpa using hj)];simp [hj]⟩
theorem IntsIn.drewN {w:World} {ao:Option Addr} {xs:List Int} (h:IntsIn w ao xs) (n:Nat):IntsIn (w.drewN n) ao xs:=h
def aroundF (x n:Int):Int:=(if x < 0 then -(x + 1) else x) % n
theorem aroundF_bd (x n:Int) (hn:0 < n):0≤aroundF x n∧aroundF x n < n:=by
 unfold aroundF;exact ⟨Int.emod_nonneg _ (by omega),Int.emod_lt_of_pos _ hn⟩
theorem around_any (x n:Int) (w:World) (hn:0 < n) (hx:-9223372036854775808≤x∧x≤9223372036854775807):
  Calls Tryz.prog 14 #[H J x,H J n] w fun e w'=> e=.returned (H J (aroundF x n))∧w=w':=by
 obtain ⟨r,hr⟩:∃ r,r=aroundF x n:=⟨_,rfl⟩;rw [←hr];have HR:=gi hr;clear hr;obtain ⟨x0,x1⟩:=hx
 by_cases h:x < 0
 ·go_enter Tryz.func14,Tryz.ntmps14
  go_wp2;go_ret;refine ⟨?_,rfl⟩;rw [HR.o,aroundF,if_pos h]
  show Ending.returned (H J (-(x + 1).tmod n))=_
  rw [←Int.neg_tmod,Int.tmod_eq_emod_of_nonneg (by omega)]
 ·go_enter Tryz.func14,Tryz.ntmps14
  go_wp2;go_ret;exact ⟨by rw [HR.o,aroundF,if_neg (by omega)];rfl,rfl⟩
def I64 (x:Int):Prop:= -9223372036854775808≤x∧x≤9223372036854775807
theorem SpansOK.bounds:∀ {l:List (Int × Int)},SpansOK l→∀ i (h:i < l.length),0≤l[i].1∧l[i].1≤l[i].2∧l[i].2≤1114111
 | [],_,i,h=> by simp at h
 | [s],hs,i,h=> by
  have:i=0:=by simpa using h
  subst this;exact hs
 | s::t::r,hs,i,h=> by
  obtain ⟨h1,h2,h3,h4⟩:=hs
  cases i with
  | zero=>
   have:=SpansOK.bounds h4 0 (by simp)
   simp only [List.getElem_cons_zero] at this ⊢;exact ⟨h1,h2,by omega⟩
  | succ i=> exact SpansOK.bounds h4 i (by simpa using h)
theorem SpansOK.gap:∀ {l:List (Int × Int)},SpansOK l→∀ i (h:i + 1 < l.length),l[i].2 + 2≤l[i + 1].1
 | [],_,i,h=> by simp at h
 | [s],hs,i,h=> by simp at h
 | s::t::r,hs,i,h=> by
  obtain ⟨h1,h2,h3,h4⟩:=hs
  cases i with
  | zero=> exact h3
  | succ i=> exact SpansOK.gap h4 i (by simpa using h)
theorem right_any (lo hi:Int) (w:World) (h1:0≤lo) (h2:lo≤hi) (h3:hi≤1114111):
  Calls Tryz.prog 152 #[.agg #[H J lo,H J hi]] w fun e w'=> e=.returned (F true)∧Keeps [] w w':=by
 go_enter Tryz.func152,Tryz.ntmps152
 go_wp2;go_ret;exact ⟨rfl,Keeps.a1 _ _⟩
theorem either_any (g:Nat) (b0 b1:Bool) (c:Nat) (w:World) (h0:w.cell? ⟨g,0,none⟩=some (F b0)) (h1:w.cell? ⟨g,1,none⟩=some (F b1)):
  Calls Tryz.prog 145 #[M (some ⟨g,0,none⟩) 2 c] w fun e w'=> e=.returned (F (b0 || b1))∧w'=w:=by
 cases b0
 all_goals
  go_enter Tryz.func145,Tryz.ntmps145
  go_wp2;go_ret;exact ⟨by simp,rfl⟩
theorem limited_any (a:Option Addr) (n c:Nat) (w:World):
  Calls Tryz.prog 150 #[M a n c] w fun e w'=> (if n≤64 then e=.returned (.tuple #[M a n c,H J 0]) else e=.returned (.tuple #[M none 0 0,H J 4]))∧w'=w:=by
 by_cases h:n≤64
 ·have hi:¬ (64:Int) < (n:Int):=by omega
  simp only [if_pos h];go_enter Tryz.func150,Tryz.ntmps150
  go_wp2
  go_ret2
  exact ⟨rfl,rfl⟩
 ·have hi:(64:Int) < (n:Int):=by omega
  simp only [if_neg h];go_enter Tryz.func150,Tryz.ntmps150
  go_wp2
  go_ret2
  exact ⟨rfl,rfl⟩
theorem valid_any (sa:Option Addr) (sc:Nat) (l:List (Int × Int)) (w:World) (hs:SpansIn w sa sc l) (ho:SpansOK l) (hn:l.length≤64):
  Calls Tryz.prog 149 #[M sa l.length sc] w fun e w'=> e=.returned (H J 0)∧Keeps [] w w':=by
 have HS:=gi hs;have HO:=gi ho.bounds;have HG:=gi ho.gap;have hni:¬ (64:Int) < (l.length:Int):=by omega
 clear hs ho;go_enter Tryz.func149,Tryz.ntmps149
 go_wp2
 go_loopw [7] (fun i wr=> ∃ k:Nat,k≤l.length∧i=H J k∧Keeps [] w wr) (fun i _=> l.length - (intOf i).toNat)
 case atStart=> exact ⟨0,Nat.zero_le _,rfl,Keeps.refl _ _⟩
 case round=>
  obtain ⟨k,hk,rfl,hkp⟩:=hrel;have HK:=gi hkp
  by_cases hlt:k < l.length
  ·obtain ⟨b,off,rfl,hb,hx⟩:=(HS.o.keep hkp).at_ (by have:=HS.o.le;omega);obtain ⟨x0,x1⟩:=hx k hlt;obtain ⟨o1,o2,o3⟩:=HO.o k hlt;have hgap:∀ (h:0 < k),l[k - 1].2 + 2≤l[k].1:=fun h=> by
    have h2:=HG.o (k - 1) (by omega);have e:k - 1 + 1=k:=by omega
    simp only [e] at h2;exact h2
   have hprev:∀ (h:0 < k),wr.cell? ⟨b,off + (k - 1) * 2 + 1,none⟩=some (H J l[k - 1].2):=fun h=> (hx (k - 1) (by omega)).2;have hpb:∀ (h:0 < k),0≤l[k - 1].2∧l[k - 1].2≤1114111:=fun h=> by have:=HO.o (k - 1) (by omega);omega
   obtain ⟨lo,hlo⟩:∃ lo,lo=l[k].1:=⟨_,rfl⟩;obtain ⟨hi,hhi⟩:∃ hi,hi=l[k].2:=⟨_,rfl⟩;rw [←hlo,←hhi] at o2;rw [←hlo] at x0 o1;rw [←hhi] at x1 o3;simp only [←hlo] at hgap;have RI:=gi (fun W=> right_any lo hi W o1 o2 o3);clear hx hkp hlo hhi;obtain ⟨C,hC⟩:∃ C,C=wr.heap.size:=⟨_,rfl⟩;have hC0:∀ ob,(wr.alloc ob).heap.size=C + 1:=fun ob=> by rw [hC];simp
   go_upto_region 4 with fail
   obtain ⟨Y,hY⟩:∃ Y,Y=wr.alloc (.cells #[H J lo,H J hi] 86):=⟨_,rfl⟩;have hkY:Keeps [] wr Y:=by rw [hY];exact Keeps.a1 _ _
   have hYH:Y.heap[C]? =some (.cells #[H J lo,H J hi] 86 (0,0)):=by rw [hY,hC];exact heap_alloc_new wr _
   have y0:Y.cell? ⟨C,0,none⟩=some (H J lo):=by simp [World.cell?,hYH]
   have y1:Y.cell? ⟨C,1,none⟩=some (H J hi):=by simp [World.cell?,hYH]
   rw [←hY,←hC];have KY:=gi hkY;clear hY hC hC0 hkY hYH x0 x1
   by_cases h0:k=0
   ·subst h0;refine rg (S:=fun w'=> w'.cell? ⟨C,0,none⟩=some (H J lo)∧w'.cell? ⟨C,1,none⟩=some (H J hi)) (fun _ k=> ⟨k.c y0,k.c y1⟩) fun kz hHeld=> ?_;refine tk 0 ?_;refine j6 1 fun K hK=> ?_;go_simp
    go_at_call 152
    refine Calls.mono (RI.o _) ?_;rintro e w3 ⟨rfl,hk3⟩;have K3:=gi (((Keeps.refl [] Y).drew).trans hk3);clear hk3;refine hK.out _ _ (kz.o _ K3.o) fun hHeld=> ?_;clear hK K;try go_frame
    refine tk 2 ?_;refine tk 3 ?_;refine tk 4 ?_;refine tk 5 ?_;refine tk 6 ?_;refine tf 7 ?_;refine tf 8 ?_;refine tf 9 ?_;refine tf 10 ?_;refine tf 11 ?_;refine tf 12 ?_;refine tf 13 ?_;refine tf 14 ?_;refine tf 15 ?_;refine tf 16 ?_;refine tk 17 ?_;refine tk 18 ?_;refine wd ?_;have KR:=gi ((HK.o.trans KY.o).trans K3.o);clear y0 y1 hHeld;go_wp2;go_roundw
    case rel=> exact ⟨1,by omega,rfl,KR.o⟩
    case measure=> simp [intOf];omega
   ·have hk0:0 < k:=by omega
    have hg:=hgap hk0;have p0:=KY.o.cell (hprev hk0) (by simp);obtain ⟨q1,q2⟩:=hpb hk0;obtain ⟨z,hz⟩:∃ z,z=l[k - 1].2:=⟨_,rfl⟩;rw [←hz] at hg p0 q1 q2;have hk0i:(0:Int) < (k:Int):=by omega
    have hk1i:(1:Int)≤(k:Int):=by omega
    have hw1:IntKind.i64.wrap ((k:Int) - 1)=(k:Int) - 1:=IntWalk.i64_in _ (by have h1:=HS.o.le;have h2:=HS.o.cap;unfold maxLen at h2;omega);have hw2:IntKind.i64.wrap (z + 2)=z + 2:=IntWalk.i64_in _ (by omega);have hb1:(0:Int)≤(k:Int) - 1:=by omega
    have hb2:(k:Int) - 1 < (l.length:Int):=by omega
    have hb3:((k:Int) - 1).toNat=k - 1:=by omega
    have hno:¬ lo < z + 2:=by omega
    clear hgap hprev hpb hz hg;refine rg (S:=fun w'=> (w'.cell? ⟨C,0,none⟩=some (H J lo)∧w'.cell? ⟨C,1,none⟩=some (H J hi))∧w'.cell? ⟨b,off + (k - 1) * 2 + 1,none⟩=some (H J z)) (fun _ k=> ⟨⟨k.c y0,k.c y1⟩,k.c p0⟩) fun kz hHeld=> ?_;refine tk 0 ?_;refine j6 1 fun K hK=> ?_;go_simp
    go_at_call 152
    refine Calls.mono (RI.o _) ?_;rintro e w3 ⟨rfl,hk3⟩;have K3:=gi (((Keeps.refl [] Y).drew).trans hk3);clear hk3;refine hK.out _ _ (kz.o _ K3.o) fun hHeld=> ?_;clear hK K;try go_frame
    refine tk 2 ?_;refine tk 3 ?_;refine tk 4 ?_;refine tk 5 ?_;refine tk 6 ?_;refine tk 7 ?_;refine tk 8 ?_;refine tk 9 ?_;refine tk 10 ?_;refine tk 11 ?_;refine tk 12 ?_;refine tk 13 ?_;refine tk 14 ?_;refine tk 15 ?_;refine tk 16 ?_;refine tk 17 ?_;refine tk 18 ?_;refine wd ?_;have KR:=gi ((HK.o.trans KY.o).trans K3.o);clear y0 y1 hHeld p0;go_wp2;go_roundw
    case rel=> exact ⟨k + 1,by omega,by go_num,KR.o⟩
    case measure=> simp [intOf];omega
  ·obtain rfl:k=l.length:=by omega
   clear hkp;go_wp2;go_ret;exact ⟨rfl,HK.o⟩
theorem SliceAt.setN {w:World} {e size g n c:Nat} {xs:List Value} (h:SliceAt w e size (some g) n c xs) (i:Nat) (v:Value):SliceAt (w.setCell ⟨g,i,none⟩ v) e size (some g) n c (xs.set i v):=by
 obtain ⟨h1,cur,h2,h3,h4,h5,h6⟩:=h;refine ⟨by simpa using h1,_,heap_setCell_same w g i _ e v h2,h3,h4,by simpa using h5,?_⟩;subst h6;simp [List.take_set]
def addP (l:List (Int × Int)) (s:Int × Int):List (Int × Int):=
 match l.getLast? with
 | none=> [s]
 | some z=> if s.1≤z.2 + 1 then l.dropLast ++ [(z.1,max z.2 s.2)] else l ++ [s]
theorem addP_nil (s:Int × Int):addP [] s=[s]:=rfl
theorem addP_in (l:List (Int × Int)) (z s:Int × Int) (h:s.1≤z.2 + 1):addP (l ++ [z]) s=l ++ [(z.1,max z.2 s.2)]:=by
 simp [addP,h]
theorem addP_out (l:List (Int × Int)) (z s:Int × Int) (h:¬ s.1≤z.2 + 1):addP (l ++ [z]) s=(l ++ [z]) ++ [s]:=by
 simp [addP,h]
theorem flatP_set (l:List (Int × Int)) (z:Int × Int) (M':Int):(flatP (l ++ [z])).set (l.length * 2 + 1) (H J M')=flatP (l ++ [(z.1,M')]):=by
 rw [flatP_append,flatP_append,←flatP_length];rw [List.set_append_right _ _ (by omega)];simp [flatP]
def AddPost (w:World) (a:Option Nat) (r:List (Int × Int)) (e:Ending) (w':World):Prop:=
 ∃ g c',e=.returned (M (some ⟨g,0,none⟩) r.length c')∧SliceAt w' 86 2 (some g) r.length c' (flatP r)∧Keeps a.toList w w'∧(a=some g∨w.heap.size≤g)
theorem add_any (a:Option Nat) (c:Nat) (l:List (Int × Int)) (lo hi:Int) (w:World) (hs:SliceAt w 86 2 a l.length c (flatP l)) (hb:∀ z∈l,-10≤z.2∧z.2≤10000000) (hl:l.length≤100000):
  Calls Tryz.prog 155 #[sv a l.length c,.agg #[H J lo,H J hi]] w (AddPost w a (addP l (lo,hi))):=by
 obtain ⟨i0,hi0,hz0,hz1,hz2⟩:=info_parts infoSpan;have Hi:=gi hi0;have Hz0:=gi hz0;have Hz1:=gi hz1;have Hz2:=gi hz2;clear hi0 hz0 hz1 hz2;obtain ⟨C,hC⟩:∃ C,C=w.heap.size:=⟨_,rfl⟩;obtain ⟨Y,hY⟩:∃ Y,Y=w.alloc (.cells #[H J lo,H J hi] 86):=⟨_,rfl⟩;have hkY:Keeps [] w Y:=by rw [hY];exact Keeps.a1 _ _
 have hYH:Y.heap[C]? =some (.cells #[H J lo,H J hi] 86 (0,0)):=by rw [hY,hC];exact heap_alloc_new w _
 have y0:Y.cell? ⟨C,0,none⟩=some (H J lo):=by simp [World.cell?,hYH]
 have y1:Y.cell? ⟨C,1,none⟩=some (H J hi):=by simp [World.cell?,hYH]
 have HY:=gi hY;have HC:=gi hC;have KY:=gi hkY;have HS:=gi (hs.keep hkY (by simp));have HGW:=gi (fun (g:Nat) (h:a=some g)=> (by subst h;exact hs.lt:g < w.heap.size));clear hY hC hkY hYH hs;obtain rfl | ⟨ll,z,hlz⟩:=List.eq_nil_or_concat l
 ·rw [addP_nil];simp only [sv,List.length_nil] at HS ⊢;go_enter Tryz.func155,Tryz.ntmps155
  go_upto_region 2 with fail
  rw [←HY.o,←HC.o];refine rg (S:=fun w'=> w'.cell? ⟨C,0,none⟩=some (H J lo)) (fun _ k=> k.c y0) fun kz hHeld=> ?_;refine tk 0 ?_;refine tk 1 ?_;refine tk 2 ?_;refine tf 3 ?_;refine tf 4 ?_;refine tf 5 ?_;refine tf 6 ?_;refine tf 7 ?_;refine tf 8 ?_;refine tf 9 ?_;refine tf 10 ?_;refine tf 11 ?_;refine tf 12 ?_;refine tk 13 ?_;refine wd ?_
  go_wp2_with (at_builtin;refine wpList_append_sl rfl (.tmp 37) (.tmp 39) 23 rfl 86 i0 _ 2 16 Tryz.underlying23 Hi.o Hz0.o Hz1.o Hz2.o rfl (by decide) a 0 c [] rfl ((HS.o.drewN 1).alloc _) ⟨Y.heap.size,0,none⟩ 1 1 [H J lo,H J hi] rfl rfl ?hnews ?hone (by decide) (by omega) (by omega) ?hk)
  case hnews=> exact news_row' _ _ _ _ rfl
  case hone=> intro u hu;simp at hu;rcases hu with rfl | rfl <;> rfl
  case hk=>
   intro g c2 w2 hsl hk2 hg;have HSL:=gi hsl;have K2:=gi ((((KY.o.drew).alloc _).mono (by simp)).trans hk2);have HG:=gi hg;clear hsl hk2 hg y0 y1 hHeld;go_wp2;go_ret;exact ⟨g,c2,rfl,HSL.o,K2.o,by
    rcases HG.o with h | h
    ·exact .inl h
    ·exact .inr (by have h:Y.heap.size + 1≤g:=h;have:=KY.o.size;omega)⟩
 ·rw [List.concat_eq_append] at hlz;subst hlz
  cases a with
  | none=>
   have:=HS.o.2.1
   simp at this
  | some g=>
   obtain ⟨p,q⟩:=z;obtain ⟨n,hn⟩:∃ n,n=(ll ++ [(p,q)]).length:=⟨_,rfl⟩;have hn1:n=ll.length + 1:=by rw [hn];simp
   have hq:=hb (p,q) (by simp);simp only at hq;have hgl:=HS.o.lt;have hCY:C < Y.heap.size:=World.block_lt_of_cell? Y _ y0;have hgC:g≠C:=fun h=> by have:=HGW.o g rfl;have:=HC.o;omega
   have hlast:=HS.o.cell ((n - 1) * 2 + 1) (by rw [flatP_length,←hn];omega);have hv:=(flatP_get (ll ++ [(p,q)]) (n - 1) (by rw [←hn];omega)).2;have hx:Y.cell? ⟨g,(n - 1) * 2 + 1,none⟩=some (H J q):=by
    rw [hlast];rw [List.getElem?_eq_getElem (by rw [flatP_length,←hn];omega)] at hv;rw [hv];simp [hn1]
   have hff:=HS.o.fz ((n - 1) * 2 + 1);rw [←hn] at HS ⊢;have hn0:(0:Int) < (n:Int):=by omega
   have hn0n:0 < n:=by omega
   have hw1:IntKind.i64.wrap ((n:Int) - 1)=(n:Int) - 1:=IntWalk.i64_in _ (by omega);have hw2:IntKind.i64.wrap (q + 1)=q + 1:=IntWalk.i64_in _ (by omega);have hb1:(1:Int)≤(n:Int):=by omega
   have hb2:(n:Int) - 1 < (n:Int):=by omega
   have hb3:((n:Int) - 1).toNat=n - 1:=by omega
   have HN:=gi hn;have HN1:=gi hn1;have hnle:n≤100000:=by rw [hn];exact hl
   clear hlast hv hq hb hn hn1 hl;simp only [sv,Option.map_some]
   by_cases hle:lo≤q + 1
   ·have hR:=addP_in ll (p,q) (lo,hi) hle;have HR:=gi hR;clear hR;go_enter Tryz.func155,Tryz.ntmps155
    go_upto_region 2 with fail
    rw [←HY.o,←HC.o];refine rg (S:=fun w'=> w'.cell? ⟨C,0,none⟩=some (H J lo)∧w'.cell? ⟨g,(n - 1) * 2 + 1,none⟩=some (H J q)) (fun _ k=> ⟨k.c y0,k.c hx⟩) fun kz hHeld=> ?_;refine tk 0 ?_;refine tk 1 ?_;refine tk 2 ?_;refine tk 3 ?_;refine tk 4 ?_;refine tk 5 ?_;refine tk 6 ?_;refine tk 7 ?_;refine tk 8 ?_;refine tk 9 ?_;refine tk 10 ?_;refine tk 11 ?_;refine tk 12 ?_;refine tk 13 ?_;refine wd ?_;clear hHeld;go_upto_region 3 with fail
    refine rg (S:=fun w'=> w'.cell? ⟨C,1,none⟩=some (H J hi)) (fun _ k=> k.c y1) fun kz hHeld=> ?_;refine tk 0 ?_;refine tk 1 ?_;refine tk 2 ?_;refine tk 3 ?_;refine tk 4 ?_;refine tk 5 ?_;refine tk 6 ?_;refine tk 7 ?_;refine tk 9 ?_;refine tk 10 ?_;refine j6 8 fun K hK=> ?_;go_simp;refine hK.out _ _ (y1) (fun hHeld=> ?_);clear hK K;try go_frame
    by_cases hm:q < hi
    ·have hm2:max q hi=hi:=by omega
     refine tk 11 ?_;refine tk 12 ?_;refine tk 13 ?_;refine j6 14 fun K hK=> ?_;go_simp;refine hK.out _ _ (((((Keeps.refl [g] Y).setCell (p:=⟨g,(n - 1) * 2 + 1,none⟩) (.inl (by simp)) (H J hi)).drew).drew).cell y1 (by simp;omega)) (fun hHeld=> ?_);clear hK K;try go_frame
     refine wd ?_;go_wp2;go_ret;refine ⟨g,c,?_,?_,?_,.inl rfl⟩
     ·rw [HR.o]
      show Ending.returned (M (some ⟨g,0,none⟩) n c)=_
      rw [HN.o]
      simp
     ·rw [HR.o];have h:=((HS.o.setN ((n - 1) * 2 + 1) (H J hi)).drewN 1).drewN 1;rw [show n - 1=ll.length by have:=HN1.o;omega,flatP_set] at h;rw [show (ll ++ [((p,q).1,max (p,q).2 (lo,hi).2)]).length=n by rw [HN.o];simp];rw [show max (p,q).2 (lo,hi).2=hi by simp only;omega];rw [show n - 1=ll.length by have:=HN1.o;omega];exact h
     ·exact (((KY.o.mono (by simp)).setCell (p:=⟨g,(n - 1) * 2 + 1,none⟩) (.inl (by simp)) _).drew).drew
    ·have hm2:max q hi=q:=by omega
     refine tk 11 ?_;refine tk 12 ?_;refine tk 13 ?_;refine j6 14 fun K hK=> ?_;go_simp;refine hK.out _ _ (((((Keeps.refl [g] Y).setCell (p:=⟨g,(n - 1) * 2 + 1,none⟩) (.inl (by simp)) (H J q)).drew).drew).cell y1 (by simp;omega)) (fun hHeld=> ?_);clear hK K;try go_frame
     refine wd ?_;go_wp2;go_ret;refine ⟨g,c,?_,?_,?_,.inl rfl⟩
     ·rw [HR.o]
      show Ending.returned (M (some ⟨g,0,none⟩) n c)=_
      rw [HN.o]
      simp
     ·rw [HR.o];have h:=((HS.o.setN ((n - 1) * 2 + 1) (H J q)).drewN 1).drewN 1;rw [show n - 1=ll.length by have:=HN1.o;omega,flatP_set] at h;rw [show (ll ++ [((p,q).1,max (p,q).2 (lo,hi).2)]).length=n by rw [HN.o];simp];rw [show max (p,q).2 (lo,hi).2=q by simp only;omega];rw [show n - 1=ll.length by have:=HN1.o;omega];exact h
     ·exact (((KY.o.mono (by simp)).setCell (p:=⟨g,(n - 1) * 2 + 1,none⟩) (.inl (by simp)) _).drew).drew
   ·have hR:=addP_out ll (p,q) (lo,hi) hle;have HR:=gi hR;clear hR;go_enter Tryz.func155,Tryz.ntmps155
    go_upto_region 2 with fail
    rw [←HY.o,←HC.o];refine rg (S:=fun w'=> w'.cell? ⟨C,0,none⟩=some (H J lo)∧w'.cell? ⟨g,(n - 1) * 2 + 1,none⟩=some (H J q)) (fun _ k=> ⟨k.c y0,k.c hx⟩) fun kz hHeld=> ?_;refine tk 0 ?_;refine tk 1 ?_;refine tk 2 ?_;refine tk 3 ?_;refine tk 4 ?_;refine tk 5 ?_;refine tk 6 ?_;refine tk 7 ?_;refine tk 8 ?_;refine tk 9 ?_;refine tk 10 ?_;refine tk 11 ?_;refine tk 12 ?_;refine tk 13 ?_;refine wd ?_;clear hHeld
    go_wp2_with (at_builtin;refine wpList_append_sl rfl (.tmp 37) (.tmp 39) 23 rfl 86 i0 _ 2 16 Tryz.underlying23 Hi.o Hz0.o Hz1.o Hz2.o rfl (by decide) (some g) n c _ rfl ((HS.o.drewN 1).alloc _) ⟨Y.heap.size,0,none⟩ 1 1 [H J lo,H J hi] rfl rfl ?hnews2 ?hone2 (by decide) (by omega) (by omega) ?hk2)
    case hone2=> exact ⟨rfl,rfl⟩
    case hk2=>
     intro g' c2 w2 hsl hk2 hg;have HSL:=gi hsl;have K2:=gi ((((KY.o.drew).alloc _).mono (by simp)).trans hk2);have HG:=gi hg;clear hsl hk2 hg y0 y1 hx hff;go_wp2;go_ret;refine ⟨g',c2,?_,?_,K2.o,?_⟩
     ·rw [HR.o]
      show Ending.returned (M (some ⟨g',0,none⟩) (n + 1) c2)=_
      rw [HN.o]
      simp
     ·rw [HR.o,flatP_append]
      have:=HSL.o
      rw [show ((ll ++ [(p,q)]) ++ [(lo,hi)]).length=n + 1 by rw [HN.o];simp];exact this
     ·rcases HG.o with h | h
      ·exact .inl (congrArg some h)
      ·exact .inr (by have h:Y.heap.size + 1≤g':=h;have:=KY.o.size;omega)
end Go.Proofs.YtjnlkjlbejelgaaGreat
