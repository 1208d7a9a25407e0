/- Part 23 of the proof. No condition: every lemma says its own. -/
import Derived.Deep.CutBlock
import Derived.Test.YtjnlkjlbejelgaaGreatLat
import Derived.Test.YtjnlkjlbejelgaaGreatLav
import Derived.Test.YtjnlkjlbejelgaaGreatLaq
import Derived.Test.YtjnlkjlbejelgaaGreatLah
namespace Go.Proofs.YtjnlkjlbejelgaaGreat
open Go.RowKit
open Go.Value renaming int→H,slice→M,bool→F
open Go.IntKind renaming i64→J
set_option maxRecDepth 100000
set_option maxHeartbeats 16000000
theorem aformed_any (m:MRe) (b o:Nat) (caps top:Int) (w:World) (h8:At8 w b o m) (k1:m.OK w) (ht:top≤2000000):
  Calls Tryz.prog 101 #[.pointer (some ⟨b,o,none⟩),H J caps,H J top] w fun e w'=> e=.returned (F (nodeB caps top m.tree))∧Keeps [] w w':=by
 obtain ⟨R,hR0⟩:∃ R,R=nodeB caps top m.tree:=⟨_,rfl⟩;rw [←hR0];obtain ⟨op,sa,sc,set,ka,kc,kids,mn,mx,mode,n,neg⟩:=m;replace hR0:R=formedB op set.length (MRe.trees kids).length mn mx mode n neg caps (spansB set top):=hR0;rw [MRe.trees_length] at hR0;have HSP:=gi (fun (W:World) (h:Keeps [] w W)=> aspans_any sa sc set top W (k1.spans.keep h) ht);obtain ⟨sp,hsp⟩:∃ sp,sp=spansB set top:=⟨_,rfl⟩;rw [←hsp] at HSP hR0;have g:=h8.node;obtain ⟨c0,c1,c2,c3,c4,c5,c6,c7⟩:=id g;have HBD:=gi (fun (W:World) (h:Keeps [] w W)=> bounded_any b o mn mx mode W (h.c c3) (h.c c4) (h.c c5));obtain ⟨bd,hbd⟩:∃ bd,bd=f3B mn mx mode:=⟨_,rfl⟩;rw [←hbd] at HBD;have HBDE:=gi hbd;have hle:=k1.nodes.le;have hcap:=k1.nodes.cap;unfold maxLen at hcap;obtain ⟨nk,hnk⟩:∃ nk,nk=kids.length:=⟨_,rfl⟩;obtain ⟨ns,hns⟩:∃ ns,ns=set.length:=⟨_,rfl⟩;rw [←hnk] at c2 hR0 hle;rw [←hns] at c1 hR0;simp only [←hns] at HSP;have HR:=gi hR0;clear hR0 hsp g h8 k1 hnk hns hbd;obtain ⟨nb,hnb⟩:∃ nb,nb=(decide (1≤n) && decide (n≤caps)):=⟨_,rfl⟩;have HNB:=gi hnb;clear hnb;go_enter Tryz.func101,Tryz.ntmps101
 go_upto_region 2 with fail
 go_cut [8] from 16 to 28 (fun s8 wx=> s8=F nb∧w=wx)
 case first=>
  by_cases h1:1≤n
  ·by_cases h2:n≤caps
   ·go_wp2;go_meet;exact ⟨by rw [HNB.o,decide_eq_true h1,decide_eq_true h2];rfl,rfl⟩
   ·go_wp2;go_meet;exact ⟨by rw [HNB.o,decide_eq_true h1,decide_eq_false (show ¬ n≤caps by omega)];rfl,rfl⟩
  ·go_wp2;go_meet;exact ⟨by rw [HNB.o,decide_eq_false (show ¬ 1≤n by omega)];rfl,rfl⟩
 obtain ⟨rfl,rfl⟩:=hcut;go_upto_region 5 with fail
 obtain ⟨W,hWe⟩:∃ W,W=w.alloc (.cells #[H J op,M sa ns sc,M none 0 0,H J mn,H J mx,H J mode,H J n,F neg] 26):=⟨_,rfl⟩;obtain ⟨G,hGe⟩:∃ G,G=w.heap.size:=⟨_,rfl⟩;have hkW:Keeps [] w W:=by rw [hWe];exact Keeps.a1 _ _
 have hG:W.heap[G]? =some (.cells #[H J op,M sa ns sc,M none 0 0,H J mn,H J mx,H J mode,H J n,F neg] 26 (0,0)):=by rw [hWe,hGe];exact heap_alloc_new w _
 rw [←hWe,←hGe];have KW:=gi hkW;have HG:=gi hG;have HGE:=gi hGe;have c0:=hkW.c c0;have c6:=hkW.c c6;have c1:=hkW.c c1;have c2:=hkW.c c2;clear hWe hGe hkW hG
 go_upto_block 0 with fail
 go_cut [10] from 36 to 122 (fun s10 wx=> ∃ (gb:Bool) (sx:Option Addr) (nx cx:Nat) (mnx mxx mdx nnx:Int) (ngx:Bool) (V:World),s10=F gb∧V=wx∧Keeps [] w V∧V.heap[G]? =some (.cells #[H J op,M sx nx cx,M none 0 0,H J mnx,H J mxx,H J mdx,H J nnx,F ngx] 26 (0,0))∧R=(gb && restB nx mnx mxx mdx nnx ngx))
 case first=>
  obtain ⟨g0,g1,g2,g3,g4,g5,g6,g7⟩:=row_cells HG.o;have gf:=row_frozen HG.o
  by_cases hop:0≤op∧op≤11
  ·obtain rfl | rfl | rfl | rfl | rfl | rfl | rfl | rfl | rfl | rfl | rfl | rfl:op=0∨op=1∨op=2∨op=3∨op=4∨op=5∨op=6∨op=7∨op=8∨op=9∨op=10∨op=11:=by omega
   ·by_cases h1:nk=0
    ·subst h1;go_wp2;go_meet;exact ⟨true,sa,ns,sc,mn,mx,mode,n,neg,_,rfl,rfl,KW.o,HG.o,by rw [HR.o,formed0];(first | done | rfl)⟩
    ·have q1:((nk:Int)==0)=false:=by simp;omega
     have q2:(nk==0)=false:=by simp;omega
     go_wp2;go_meet;exact ⟨false,sa,ns,sc,mn,mx,mode,n,neg,_,rfl,rfl,KW.o,HG.o,by rw [HR.o,formed0,decide_eq_false (by omega)];(first | done | rfl)⟩
   ·by_cases h1:nk=0
    ·subst h1;go_wp2_with fail
     refine Calls.mono (HSP.o _ KW.o) ?_;rintro e w4 ⟨rfl,hk4⟩;have K4:=gi (KW.o.trans hk4);have HG4:=gi (hk4.h HG.o);clear hk4 g0 g1 g2 g3 g4 g5 g6 g7 gf c0 c1 c2 c6;obtain ⟨g0,g1,g2,g3,g4,g5,g6,g7⟩:=row_cells HG4.o;have gf:=row_frozen HG4.o;go_wp2;go_meet;exact ⟨sp,none,0,0,mn,mx,mode,n,neg,_,rfl,rfl,(K4.o.after ((Keeps.refl [G] w4).setCell (p:=⟨G,1,none⟩) (.inl (by simp)) (M none 0 0)) (by intro x hx;simp at hx;subst hx;exact .inr (by rw [HGE.o];exact Nat.le_refl _))),(heap_setCell_same w4 G 1 _ _ (M none 0 0) HG4.o),by rw [HR.o,formed1];(first | done | rfl)⟩
    ·have q1:((nk:Int)==0)=false:=by simp;omega
     have q2:(nk==0)=false:=by simp;omega
     go_wp2;go_meet;exact ⟨false,none,0,0,mn,mx,mode,n,neg,_,rfl,rfl,(KW.o.after ((Keeps.refl [G] W).setCell (p:=⟨G,1,none⟩) (.inl (by simp)) (M none 0 0)) (by intro x hx;simp at hx;subst hx;exact .inr (by rw [HGE.o];exact Nat.le_refl _))),(heap_setCell_same W G 1 _ _ (M none 0 0) HG.o),by rw [HR.o,formed1,decide_eq_false (by omega)];(first | done | rfl)⟩
   ·by_cases h1:2≤nk
    ·have q1:(2:Int)≤(nk:Int):=by omega
     go_wp2;go_meet;exact ⟨true,sa,ns,sc,mn,mx,mode,n,neg,_,rfl,rfl,KW.o,HG.o,by rw [HR.o,formed2,decide_eq_true (by omega)];(first | done | rfl)⟩
    ·have q1:¬ (2:Int)≤(nk:Int):=by omega
     go_wp2;go_meet;exact ⟨false,sa,ns,sc,mn,mx,mode,n,neg,_,rfl,rfl,KW.o,HG.o,by rw [HR.o,formed2,decide_eq_false (by omega)];(first | done | rfl)⟩
   ·by_cases h1:2≤nk
    ·have q1:(2:Int)≤(nk:Int):=by omega
     go_wp2;go_meet;exact ⟨true,sa,ns,sc,mn,mx,mode,n,neg,_,rfl,rfl,KW.o,HG.o,by rw [HR.o,formed3,decide_eq_true (by omega)];(first | done | rfl)⟩
    ·have q1:¬ (2:Int)≤(nk:Int):=by omega
     go_wp2;go_meet;exact ⟨false,sa,ns,sc,mn,mx,mode,n,neg,_,rfl,rfl,KW.o,HG.o,by rw [HR.o,formed3,decide_eq_false (by omega)];(first | done | rfl)⟩
   ·by_cases h1:nk=1
    ·subst h1;go_wp2_with fail
     refine Calls.mono (HBD.o _ KW.o) ?_;rintro e w4 ⟨rfl,hk4⟩;have K4:=gi (KW.o.trans hk4);have HG4:=gi (hk4.h HG.o);clear hk4 g0 g1 g2 g3 g4 g5 g6 g7 gf c0 c1 c2 c6;obtain ⟨g0,g1,g2,g3,g4,g5,g6,g7⟩:=row_cells HG4.o;have gf:=row_frozen HG4.o;go_wp2;go_meet;exact ⟨(!bd),sa,ns,sc,0,0,0,n,neg,_,rfl,rfl,(((K4.o.after ((Keeps.refl [G] w4).setCell (p:=⟨G,3,none⟩) (.inl (by simp)) (H J 0)) (by intro x hx;simp at hx;subst hx;exact .inr (by rw [HGE.o];exact Nat.le_refl _))).after ((Keeps.refl [G] (w4.setCell ⟨G,3,none⟩ (H J 0))).setCell (p:=⟨G,4,none⟩) (.inl (by simp)) (H J 0)) (by intro x hx;simp at hx;subst hx;exact .inr (by rw [HGE.o];exact Nat.le_refl _))).after ((Keeps.refl [G] ((w4.setCell ⟨G,3,none⟩ (H J 0)).setCell ⟨G,4,none⟩ (H J 0))).setCell (p:=⟨G,5,none⟩) (.inl (by simp)) (H J 0)) (by intro x hx;simp at hx;subst hx;exact .inr (by rw [HGE.o];exact Nat.le_refl _))),(heap_setCell_same ((w4.setCell ⟨G,3,none⟩ (H J 0)).setCell ⟨G,4,none⟩ (H J 0)) G 5 _ _ (H J 0) (heap_setCell_same (w4.setCell ⟨G,3,none⟩ (H J 0)) G 4 _ _ (H J 0) (heap_setCell_same w4 G 3 _ _ (H J 0) HG4.o))),by rw [HR.o,formed4,←HBDE.o];(first | done | rfl)⟩
    ·have q1:((nk:Int)==1)=false:=by simp;omega
     have q2:(nk==1)=false:=by simp;omega
     go_wp2;go_meet;exact ⟨false,sa,ns,sc,0,0,0,n,neg,_,rfl,rfl,(((KW.o.after ((Keeps.refl [G] W).setCell (p:=⟨G,3,none⟩) (.inl (by simp)) (H J 0)) (by intro x hx;simp at hx;subst hx;exact .inr (by rw [HGE.o];exact Nat.le_refl _))).after ((Keeps.refl [G] (W.setCell ⟨G,3,none⟩ (H J 0))).setCell (p:=⟨G,4,none⟩) (.inl (by simp)) (H J 0)) (by intro x hx;simp at hx;subst hx;exact .inr (by rw [HGE.o];exact Nat.le_refl _))).after ((Keeps.refl [G] ((W.setCell ⟨G,3,none⟩ (H J 0)).setCell ⟨G,4,none⟩ (H J 0))).setCell (p:=⟨G,5,none⟩) (.inl (by simp)) (H J 0)) (by intro x hx;simp at hx;subst hx;exact .inr (by rw [HGE.o];exact Nat.le_refl _))),(heap_setCell_same ((W.setCell ⟨G,3,none⟩ (H J 0)).setCell ⟨G,4,none⟩ (H J 0)) G 5 _ _ (H J 0) (heap_setCell_same (W.setCell ⟨G,3,none⟩ (H J 0)) G 4 _ _ (H J 0) (heap_setCell_same W G 3 _ _ (H J 0) HG.o))),by rw [HR.o,formed4,decide_eq_false (by omega)];(first | done | rfl)⟩
   ·by_cases h1:nk=1
    ·subst h1;go_wp2;go_meet;exact ⟨nb,sa,ns,sc,mn,mx,mode,0,neg,_,rfl,rfl,(KW.o.after ((Keeps.refl [G] W).setCell (p:=⟨G,6,none⟩) (.inl (by simp)) (H J 0)) (by intro x hx;simp at hx;subst hx;exact .inr (by rw [HGE.o];exact Nat.le_refl _))),(heap_setCell_same W G 6 _ _ (H J 0) HG.o),by rw [HR.o,formed5,←HNB.o];(first | done | rfl)⟩
    ·have q1:((nk:Int)==1)=false:=by simp;omega
     have q2:(nk==1)=false:=by simp;omega
     go_wp2;go_meet;exact ⟨false,sa,ns,sc,mn,mx,mode,0,neg,_,rfl,rfl,(KW.o.after ((Keeps.refl [G] W).setCell (p:=⟨G,6,none⟩) (.inl (by simp)) (H J 0)) (by intro x hx;simp at hx;subst hx;exact .inr (by rw [HGE.o];exact Nat.le_refl _))),(heap_setCell_same W G 6 _ _ (H J 0) HG.o),by rw [HR.o,formed5,decide_eq_false (by omega)];(first | done | rfl)⟩
   ·by_cases h1:nk=0
    ·subst h1;go_wp2;go_meet;exact ⟨nb,sa,ns,sc,mn,mx,mode,0,neg,_,rfl,rfl,(KW.o.after ((Keeps.refl [G] W).setCell (p:=⟨G,6,none⟩) (.inl (by simp)) (H J 0)) (by intro x hx;simp at hx;subst hx;exact .inr (by rw [HGE.o];exact Nat.le_refl _))),(heap_setCell_same W G 6 _ _ (H J 0) HG.o),by rw [HR.o,formed6,←HNB.o];(first | done | rfl)⟩
    ·have q1:((nk:Int)==0)=false:=by simp;omega
     have q2:(nk==0)=false:=by simp;omega
     go_wp2;go_meet;exact ⟨false,sa,ns,sc,mn,mx,mode,0,neg,_,rfl,rfl,(KW.o.after ((Keeps.refl [G] W).setCell (p:=⟨G,6,none⟩) (.inl (by simp)) (H J 0)) (by intro x hx;simp at hx;subst hx;exact .inr (by rw [HGE.o];exact Nat.le_refl _))),(heap_setCell_same W G 6 _ _ (H J 0) HG.o),by rw [HR.o,formed6,decide_eq_false (by omega)];(first | done | rfl)⟩
   ·by_cases h1:nk=1
    ·subst h1;go_wp2;go_meet;exact ⟨true,sa,ns,sc,mn,mx,mode,n,false,_,rfl,rfl,(KW.o.after ((Keeps.refl [G] W).setCell (p:=⟨G,7,none⟩) (.inl (by simp)) (F false)) (by intro x hx;simp at hx;subst hx;exact .inr (by rw [HGE.o];exact Nat.le_refl _))),(heap_setCell_same W G 7 _ _ (F false) HG.o),by rw [HR.o,formed7];(first | done | rfl)⟩
    ·have q1:((nk:Int)==1)=false:=by simp;omega
     have q2:(nk==1)=false:=by simp;omega
     go_wp2;go_meet;exact ⟨false,sa,ns,sc,mn,mx,mode,n,false,_,rfl,rfl,(KW.o.after ((Keeps.refl [G] W).setCell (p:=⟨G,7,none⟩) (.inl (by simp)) (F false)) (by intro x hx;simp at hx;subst hx;exact .inr (by rw [HGE.o];exact Nat.le_refl _))),(heap_setCell_same W G 7 _ _ (F false) HG.o),by rw [HR.o,formed7,decide_eq_false (by omega)];(first | done | rfl)⟩
   ·by_cases h1:nk=1
    ·subst h1;go_wp2;go_meet;exact ⟨true,sa,ns,sc,mn,mx,mode,n,false,_,rfl,rfl,(KW.o.after ((Keeps.refl [G] W).setCell (p:=⟨G,7,none⟩) (.inl (by simp)) (F false)) (by intro x hx;simp at hx;subst hx;exact .inr (by rw [HGE.o];exact Nat.le_refl _))),(heap_setCell_same W G 7 _ _ (F false) HG.o),by rw [HR.o,formed8];(first | done | rfl)⟩
    ·have q1:((nk:Int)==1)=false:=by simp;omega
     have q2:(nk==1)=false:=by simp;omega
     go_wp2;go_meet;exact ⟨false,sa,ns,sc,mn,mx,mode,n,false,_,rfl,rfl,(KW.o.after ((Keeps.refl [G] W).setCell (p:=⟨G,7,none⟩) (.inl (by simp)) (F false)) (by intro x hx;simp at hx;subst hx;exact .inr (by rw [HGE.o];exact Nat.le_refl _))),(heap_setCell_same W G 7 _ _ (F false) HG.o),by rw [HR.o,formed8,decide_eq_false (by omega)];(first | done | rfl)⟩
   ·by_cases h1:nk=1
    ·subst h1;go_wp2;go_meet;exact ⟨true,sa,ns,sc,mn,mx,mode,n,neg,_,rfl,rfl,KW.o,HG.o,by rw [HR.o,formed9];(first | done | rfl)⟩
    ·have q1:((nk:Int)==1)=false:=by simp;omega
     have q2:(nk==1)=false:=by simp;omega
     go_wp2;go_meet;exact ⟨false,sa,ns,sc,mn,mx,mode,n,neg,_,rfl,rfl,KW.o,HG.o,by rw [HR.o,formed9,decide_eq_false (by omega)];(first | done | rfl)⟩
   ·by_cases h1:nk=2
    ·subst h1;go_wp2;go_meet;exact ⟨nb,sa,ns,sc,mn,mx,mode,0,neg,_,rfl,rfl,(KW.o.after ((Keeps.refl [G] W).setCell (p:=⟨G,6,none⟩) (.inl (by simp)) (H J 0)) (by intro x hx;simp at hx;subst hx;exact .inr (by rw [HGE.o];exact Nat.le_refl _))),(heap_setCell_same W G 6 _ _ (H J 0) HG.o),by rw [HR.o,formed10,←HNB.o];(first | done | rfl)⟩
    ·have q1:((nk:Int)==2)=false:=by simp;omega
     have q2:(nk==2)=false:=by simp;omega
     go_wp2;go_meet;exact ⟨false,sa,ns,sc,mn,mx,mode,0,neg,_,rfl,rfl,(KW.o.after ((Keeps.refl [G] W).setCell (p:=⟨G,6,none⟩) (.inl (by simp)) (H J 0)) (by intro x hx;simp at hx;subst hx;exact .inr (by rw [HGE.o];exact Nat.le_refl _))),(heap_setCell_same W G 6 _ _ (H J 0) HG.o),by rw [HR.o,formed10,decide_eq_false (by omega)];(first | done | rfl)⟩
   ·by_cases h1:nk=0
    ·subst h1
     by_cases h2:0≤n
     ·by_cases h3:n≤5
      ·skip
       go_wp2;go_meet;exact ⟨true,sa,ns,sc,mn,mx,mode,0,neg,_,rfl,rfl,(KW.o.after ((Keeps.refl [G] W).setCell (p:=⟨G,6,none⟩) (.inl (by simp)) (H J 0)) (by intro x hx;simp at hx;subst hx;exact .inr (by rw [HGE.o];exact Nat.le_refl _))),(heap_setCell_same W G 6 _ _ (H J 0) HG.o),by rw [HR.o,formed11,decide_eq_true (show 0≤n by omega),decide_eq_true (show n≤5 by omega)];(first | done | rfl)⟩
      ·skip
       go_wp2;go_meet;exact ⟨false,sa,ns,sc,mn,mx,mode,0,neg,_,rfl,rfl,(KW.o.after ((Keeps.refl [G] W).setCell (p:=⟨G,6,none⟩) (.inl (by simp)) (H J 0)) (by intro x hx;simp at hx;subst hx;exact .inr (by rw [HGE.o];exact Nat.le_refl _))),(heap_setCell_same W G 6 _ _ (H J 0) HG.o),by rw [HR.o,formed11,decide_eq_true (show 0≤n by omega),decide_eq_false (show ¬ n≤5 by omega)];(first | done | rfl)⟩
     ·skip
      go_wp2;go_meet;exact ⟨false,sa,ns,sc,mn,mx,mode,0,neg,_,rfl,rfl,(KW.o.after ((Keeps.refl [G] W).setCell (p:=⟨G,6,none⟩) (.inl (by simp)) (H J 0)) (by intro x hx;simp at hx;subst hx;exact .inr (by rw [HGE.o];exact Nat.le_refl _))),(heap_setCell_same W G 6 _ _ (H J 0) HG.o),by rw [HR.o,formed11,decide_eq_false (show ¬ 0≤n by omega)];(first | done | rfl)⟩
    ·have q1:((nk:Int)==0)=false:=by simp;omega
     have q2:(nk==0)=false:=by simp;omega
     go_wp2;go_meet;exact ⟨false,sa,ns,sc,mn,mx,mode,0,neg,_,rfl,rfl,(KW.o.after ((Keeps.refl [G] W).setCell (p:=⟨G,6,none⟩) (.inl (by simp)) (H J 0)) (by intro x hx;simp at hx;subst hx;exact .inr (by rw [HGE.o];exact Nat.le_refl _))),(heap_setCell_same W G 6 _ _ (H J 0) HG.o),by rw [HR.o,formed11,decide_eq_false (by omega)];(first | done | rfl)⟩
  ·have HRX:=gi (show R=false by rw [HR.o];exact formedX op ns nk mn mx mode n neg caps sp (by omega));have x0:(op==0)=false:=by simp;omega
   have x1:(op==1)=false:=by simp;omega
   have x2:(op==2)=false:=by simp;omega
   have x3:(op==3)=false:=by simp;omega
   have x4:(op==4)=false:=by simp;omega
   have x5:(op==5)=false:=by simp;omega
   have x6:(op==6)=false:=by simp;omega
   have x7:(op==7)=false:=by simp;omega
   have x8:(op==8)=false:=by simp;omega
   have x9:(op==9)=false:=by simp;omega
   have x10:(op==10)=false:=by simp;omega
   have x11:(op==11)=false:=by simp;omega
   go_wp2;go_meet;exact ⟨false,sa,ns,sc,mn,mx,mode,n,neg,_,rfl,rfl,KW.o,HG.o,by rw [HRX.o];(first | done | rfl)⟩
 case rest=>
  obtain ⟨gb,sx,nx,cx,mnx,mxx,mdx,nnx,ngx,V,rfl,rfl,hkV,hG,hR⟩:=hcut;have KV:=gi hkV;have HRR:=gi hR;obtain ⟨g0,g1,g2,g3,g4,g5,g6,g7⟩:=row_cells hG;clear hkV hR hG c0 c1 c2 c3 c4 c5 c6 c7 hle hcap
  cases gb with
  | false=>
   go_wp2;go_ret;exact ⟨by rw [HRR.o];rfl,KV.o⟩
  | true=>
   by_cases r1:nx=0
   ·by_cases r2:mnx=0
    ·by_cases r3:mxx=0
     ·by_cases r4:mdx=0
      ·by_cases r5:nnx=0
       ·subst r1 r2 r3 r4 r5
        cases ngx with
        | false=> go_wp2;go_ret;exact ⟨by rw [HRR.o];rfl,KV.o⟩
        | true=> go_wp2;go_ret;exact ⟨by rw [HRR.o];rfl,KV.o⟩
       ·have HF:=gi (show R=false by rw [HRR.o];simp [restB,r5]);have q:(nnx==0)=false:=by simpa using r5
        subst r1 r2 r3 r4;go_wp2;go_ret;exact ⟨by rw [HF.o];rfl,KV.o⟩
      ·have HF:=gi (show R=false by rw [HRR.o];simp [restB,r4]);have q:(mdx==0)=false:=by simpa using r4
       subst r1 r2 r3;go_wp2;go_ret;exact ⟨by rw [HF.o];rfl,KV.o⟩
     ·have HF:=gi (show R=false by rw [HRR.o];simp [restB,r3]);have q:(mxx==0)=false:=by simpa using r3
      subst r1 r2;go_wp2;go_ret;exact ⟨by rw [HF.o];rfl,KV.o⟩
    ·have HF:=gi (show R=false by rw [HRR.o];simp [restB,r2]);have q:(mnx==0)=false:=by simpa using r2
     subst r1;go_wp2;go_ret;exact ⟨by rw [HF.o];rfl,KV.o⟩
   ·have HF:=gi (show R=false by rw [HRR.o];simp [restB,r1]);have q:(nx==0)=false:=by simpa using r1
    have q2:((nx:Int)==0)=false:=by simpa using r1
    go_wp2;go_ret;exact ⟨by rw [HF.o];rfl,KV.o⟩
def BoolAt (w:World) (u:Nat) (x:Bool):Prop:=w.heap[u]? =some (.cells #[F x] 4 (0,0))
theorem BoolAt.cell {w:World} {u:Nat} {x:Bool} (h:BoolAt w u x):w.cell? ⟨u,0,none⟩=some (F x):=by unfold BoolAt at h;simp [World.cell?,h]
theorem BoolAt.fz {w:World} {u:Nat} {x:Bool} (h:BoolAt w u x):w.frozen? ⟨u,0,none⟩=false:=by unfold BoolAt at h;simp [World.frozen?,h]
theorem BoolAt.keep {S:List Nat} {w w':World} {u:Nat} {x:Bool} (h:BoolAt w u x) (k:Keeps S w w') (hu:u ∉ S):BoolAt w' u x:=k.heap h hu
theorem BoolAt.set {w:World} {u:Nat} {x:Bool} (h:BoolAt w u x) (y:Bool):BoolAt (w.setCell ⟨u,0,none⟩ (F y)) u y:=heap_setCell_same _ u 0 _ _ _ h
theorem NumAt.lt {w:World} {u x:Nat} (h:NumAt w u x):u < w.heap.size:=lt_of_block h
theorem BoolAt.lt {w:World} {u:Nat} {x:Bool} (h:BoolAt w u x):u < w.heap.size:=lt_of_block h
structure VEnv (w:World) (S G B T C:Nat) (cp top:Int):Prop where
 cap:w.cell? ⟨B,8,none⟩=some (H J cp)
 tp:w.cell? ⟨T,0,none⟩=some (H J top)
 fn:w.cell? ⟨C,0,none⟩=some (.func (Fn.func 100) #[] #[.pointer (some ⟨S,0,none⟩),.pointer (some ⟨G,0,none⟩),.pointer (some ⟨B,0,none⟩),.pointer (some ⟨T,0,none⟩),.pointer (some ⟨C,0,none⟩)])
 nS:S≠B∧S≠T∧S≠C
 nG:G≠B∧G≠T∧G≠C
 ne:S≠G
theorem VEnv.keep {w w':World} {Q:List Nat} {S G B T C:Nat} {cp top:Int} (h:VEnv w S G B T C cp top) (k:Keeps Q w w') (hQ:∀ x∈Q,x=S∨x=G):VEnv w' S G B T C cp top:=by
 obtain ⟨a,b,c⟩:=h.nS;obtain ⟨d,e,f⟩:=h.nG;refine ⟨k.cell h.cap ?_,k.cell h.tp ?_,k.cell h.fn ?_,h.nS,h.nG,h.ne⟩
 ·intro hx;rcases hQ _ hx with h1 | h1;exact a h1.symm;exact d h1.symm
 ·intro hx;rcases hQ _ hx with h1 | h1;exact b h1.symm;exact e h1.symm
 ·intro hx;rcases hQ _ hx with h1 | h1;exact c h1.symm;exact f h1.symm
theorem sizeTs_le (l:List Tree):∀ k,sizeTs (l.take k)≤sizeTs l:=by
 induction l with
 | nil=> intro k;simp
 | cons x r ih=> intro k;cases k with
  | zero=> simp [sizeTs]
  | succ n=> have:=ih n;simp only [List.take_succ_cons,sizeTs];omega
theorem depthTs_le (l:List Tree):∀ k,depthTs (l.take k)≤depthTs l:=by
 induction l with
 | nil=> intro k;simp
 | cons x r ih=> intro k;cases k with
  | zero=> simp [depthTs]
  | succ n=> have:=ih n;simp only [List.take_succ_cons,depthTs];omega
theorem all_take_succ {α:Type} {p:α→Bool} {l:List α} {k:Nat} (h:k < l.length):(l.take (k + 1)).all p=((l.take k).all p && p l[k]):=by
 rw [List.take_succ_eq_append_getElem h,List.all_append]
 simp
def WalkPost (S G:Nat) (s d:Nat) (g:Bool) (z dt:Nat) (wt:Bool) (w:World) (e:Ending) (w':World):Prop:=
 ∃ (r:Bool) (s':Nat) (g':Bool),e=.returned (F r)∧Keeps [S,G] w w'∧NumAt w' S s'∧BoolAt w' G g'∧
  (r=true→s'=s + z∧s + z≤256∧d + dt≤25∧g'=(g && wt))∧(r=false→256 < s + z∨25 < d + dt)
theorem walkV_any (S G B T C:Nat) (cp top:Int) (ht:top≤2000000) (m:MRe):∀ (b o d s:Nat) (g:Bool) (w:World),At8 w b o m→m.OK w→VEnv w S G B T C cp top→NumAt w S s→BoolAt w G g→s≤256→1≤d→d≤25→S≠b→G≠b→S ∉ m.blocks→G ∉ m.blocks→
  Calls Tryz.prog 100 #[.pointer (some ⟨b,o,none⟩),H J d,.pointer (some ⟨S,0,none⟩),.pointer (some ⟨G,0,none⟩),.pointer (some ⟨B,0,none⟩),.pointer (some ⟨T,0,none⟩),.pointer (some ⟨C,0,none⟩)] w (WalkPost S G s d g (sizeT m.tree) (depthT m.tree) (wholeT cp top m.tree) w):=by
 induction m using MRe.induct with
 | h op sa sc set ka kc kids mn mx mode n neg ih=>
  intro b o d s g w h1 k1 hE hs hg hs6 hd1 hd5 hSb hGb hSm hGm;have hcap:=k1.nodes.cap;have hle:=k1.nodes.le;unfold maxLen at hcap;obtain ⟨nb,hnb⟩:∃ v,v=nodeB cp top (MRe.tree (.node op sa sc set ka kc kids mn mx mode n neg)):=⟨_,rfl⟩;have HF:=gi (fun (W:World) (h:Keeps [S,G] w W)=> aformed_any (.node op sa sc set ka kc kids mn mx mode n neg) b o cp top W (h1.keepS h (by simp [Ne.symm hSb,Ne.symm hGb])) (k1.keepS h (by intro q hq;simp only [List.mem_cons,List.not_mem_nil,or_false,not_or];exact ⟨fun h=> hSm (h ▸ hq),fun h=> hGm (h ▸ hq)⟩)) ht);rw [←hnb] at HF;have hz:sizeT (MRe.tree (.node op sa sc set ka kc kids mn mx mode n neg))=1 + sizeTs (MRe.trees kids):=by simp only [MRe.tree,sizeT]
  have hdp:depthT (MRe.tree (.node op sa sc set ka kc kids mn mx mode n neg))=depthTs (MRe.trees kids) + 1:=by simp only [MRe.tree,depthT]
  have hwh:wholeT cp top (MRe.tree (.node op sa sc set ka kc kids mn mx mode n neg))=(nb && (MRe.trees kids).all (wholeT cp top)):=by rw [hnb,←wholeTs_iff];simp only [MRe.tree,wholeT]
  have a2:=h1.node.c2;have HZ:=gi hz;have HDP:=gi hdp;have HWH:=gi hwh;have HEN:=gi hE;have HK1:=gi k1.kids;have HI:=gi ih;have HS:=gi hs;have HG:=gi hg;have HD1:=gi hd1;have HD5:=gi hd5;have HS6:=gi hs6;have HBS:=gi (show S ∉ blockIf kids.length ka ++ MRe.blocksL kids from fun h=> hSm (by simp only [MRe.blocks,List.mem_append] at h ⊢;exact .inr h));have HBG:=gi (show G ∉ blockIf kids.length ka ++ MRe.blocksL kids from fun h=> hGm (by simp only [MRe.blocks,List.mem_append] at h ⊢;exact .inr h));have HNB:=gi (show b ∉ [S,G] by simp [Ne.symm hSb,Ne.symm hGb]);have HNC:=gi (show C ∉ [S,G] by simp only [List.mem_cons,List.not_mem_nil,or_false,not_or];exact ⟨Ne.symm hE.nS.2.2,Ne.symm hE.nG.2.2⟩);have HNS:=gi (show S ∉ [G] by simp [hE.ne]);have HNG:=gi (show G ∉ [S] by simp [Ne.symm hE.ne]);have n1:=hs.cell;have f1:=hs.fz;have hsi:(s:Int)≤256:=by omega
  have hs0:(0:Int)≤(s:Int):=by omega
  obtain ⟨z,hzz⟩:∃ z,z=sizeT (MRe.tree (.node op sa sc set ka kc kids mn mx mode n neg)):=⟨_,rfl⟩;obtain ⟨dt,hdt⟩:∃ z,z=depthT (MRe.tree (.node op sa sc set ka kc kids mn mx mode n neg)):=⟨_,rfl⟩;obtain ⟨wt,hwt⟩:∃ z,z=wholeT cp top (MRe.tree (.node op sa sc set ka kc kids mn mx mode n neg)):=⟨_,rfl⟩
  show Calls _ _ _ _ (WalkPost S G s d g (sizeT (MRe.tree (.node op sa sc set ka kc kids mn mx mode n neg))) (depthT (MRe.tree (.node op sa sc set ka kc kids mn mx mode n neg))) (wholeT cp top (MRe.tree (.node op sa sc set ka kc kids mn mx mode n neg))) w)
  rw [←hzz] at HZ;rw [←hdt] at HDP;rw [←hwt] at HWH;rw [←hzz,←hdt,←hwt];clear ih h1 k1 hE hs hg hd1 hd5 hs6 hSb hGb hSm hGm hnb hz hdp hwh hzz hdt hwt;go_enter Tryz.func100,Tryz.ntmps100
  go_upto_region 2 with fail
  obtain ⟨X,hX⟩:∃ X,X=w.setCell ⟨S,0,none⟩ (H J ((s:Int) + 1)):=⟨_,rfl⟩;rw [←hX];have HNX:=gi (show NumAt X S (s + 1) by rw [hX];exact HS.o.set (s + 1));have HKX:=gi (show Keeps [S] w X by rw [hX];exact (Keeps.refl [S] w).setCell (p:=⟨S,0,none⟩) (.inl (by simp)) _);have HGX:=gi (HG.o.keep HKX.o HNG.o);have HEX:=gi (HEN.o.keep HKX.o (by simp));have n2:=HNX.o.cell;have HKX2:=gi (HKX.o.mono (S':=[S,G]) (by simp));clear hX n1 f1
  by_cases hb1:256 < s + 1
  ·have hbi:(256:Int) < (s:Int) + 1:=by omega
   go_wp2;go_ret;exact ⟨false,_,_,rfl,HKX2.o,HNX.o,HGX.o,by simp,fun _=> .inl (by rw [HZ.o];omega)⟩
  have hbi:¬ (256:Int) < (s:Int) + 1:=by omega
  by_cases hb2:24 < d
  ·have hb2i:(24:Int) < (d:Int):=by omega
   go_wp2;go_ret;exact ⟨false,_,_,rfl,HKX2.o,HNX.o,HGX.o,by simp,fun _=> .inr (by rw [HDP.o];omega)⟩
  have hb2i:¬ (24:Int) < (d:Int):=by omega
  go_upto_region 4 with fail
  have g1:=HGX.o.cell;have fg:=HGX.o.fz;have e1:=HEX.o.cap;have e2:=HEX.o.tp
  go_cut [] (fun wx=> ∃ W,W=wx∧Keeps [G] X W∧BoolAt W G (g && nb))
  case first=>
   cases g with
   | true=>
    go_wp2_with fail
    refine Calls.mono (HF.o X HKX2.o) ?_;rintro e w4 ⟨rfl,hk4⟩;have N4:=gi (HGX.o.keep hk4 (by simp));have g4:=N4.o.cell;have f4:=N4.o.fz;have K4:=gi (hk4.mono (S':=[G]) (by simp));clear hk4 g1 fg e1 e2;go_wp2;go_meet;exact ⟨_,rfl,K4.o.trans ((Keeps.refl [G] w4).setCell (p:=⟨G,0,none⟩) (.inl (by simp)) _),N4.o.set _⟩
   | false=>
    go_wp2;go_meet;exact ⟨_,rfl,(Keeps.refl [G] X).setCell (p:=⟨G,0,none⟩) (.inl (by simp)) _,HGX.o.set _⟩
  case rest=>
   obtain ⟨V,rfl,hkV,hgV⟩:=hcut;have HGV:=gi hgV;have HNV:=gi (HNX.o.keep hkV HNS.o);have HKV:=gi (HKX2.o.trans (hkV.mono (S':=[S,G]) (by simp)));have HEV:=gi (HEX.o.keep hkV (by simp));have a2V:=HKV.o.cell a2 HNB.o;have HBI:=gi hbi;have HB2:=gi hb2;have HB1:=gi hb1;clear hkV hgV g1 fg e1 e2 n2 a2 HNX HKX HGX HEX HG HEN HS HKX2 hbi hb2i hb1 hb2 HF;go_wp2
   go_loopw [32] (fun i wr=> ∃ k:Nat,k≤kids.length∧i=H J k∧∃ y g2,NumAt wr S y∧BoolAt wr G g2∧y=s + 1 + sizeTs ((MRe.trees kids).take k)∧y≤256∧d + depthTs ((MRe.trees kids).take k)≤24∧g2=((g && nb) && ((MRe.trees kids).take k).all (wholeT cp top))∧Keeps [S,G] w wr∧Keeps [S,G] V wr) (fun i _=> kids.length - (intOf i).toNat)
   case atStart=> exact ⟨0,Nat.zero_le _,rfl,_,_,HNV.o,HGV.o,by simp [sizeTs],by have:=HB1.o;omega,by have:=HB2.o;simp [depthTs];omega,by simp,HKV.o,Keeps.refl _ _⟩
   case round=>
    obtain ⟨k,hkk,rfl,y,g2,hny,hg2,hy,hy6,hdd,hge,hkw,hkv⟩:=hrel
    by_cases hlt:k < kids.length
    ·have hkin:=HK1.o.keepS hkw (by intro q hq;simp only [List.mem_cons,List.not_mem_nil,or_false,not_or];exact ⟨fun h=> HBS.o (h ▸ hq),fun h=> HBG.o (h ▸ hq)⟩);obtain ⟨b',off,rfl,hb,hx⟩:=hkin.nodes.kid (by omega);have hEr:=HEV.o.keep hkv (by simp);have x1:=hEr.fn;have x2:=hkv.cell a2V HNB.o;have hc1:=hkin.all kids[k] (List.getElem_mem hlt);have hSb':S≠b':=fun h=> HBS.o (List.mem_append_left _ (by unfold blockIf;rw [if_neg (by omega)];simp [h]));have hGb':G≠b':=fun h=> HBG.o (List.mem_append_left _ (by unfold blockIf;rw [if_neg (by omega)];simp [h]));have hSm':S ∉ kids[k].blocks:=fun h=> HBS.o (List.mem_append_right _ (MRe.mem_blocksL (List.getElem_mem hlt) h));have hGm':G ∉ kids[k].blocks:=fun h=> HBG.o (List.mem_append_right _ (MRe.mem_blocksL (List.getElem_mem hlt) h));have HCALL:=gi (fun (W:World) (h:Keeps [] wr W)=> HI.o kids[k] (List.getElem_mem hlt) b' (off + k * 8) (d + 1) y g2 W ((hx k hlt).keep h) (hc1.keep h) (hEr.keep h (by simp)) (hny.keep h (by simp)) (hg2.keep h (by simp)) hy6 (by omega) (by have:=HB2.o;omega) hSb' hGb' hSm' hGm');have hde:((d + 1:Nat):Int)=(d:Int) + 1:=by omega
     rw [hde] at HCALL;clear hde;have hlt':k < (MRe.trees kids).length:=by rw [MRe.trees_length];exact hlt
     have hs1:=sizeTs_take hlt';have hd1:=depthTs_take hlt';have ha1:=all_take_succ (p:=wholeT cp top) hlt';have hs2:=sizeTs_le (MRe.trees kids) (k + 1);have hd2:=depthTs_le (MRe.trees kids) (k + 1);rw [trees_getElem kids k hlt] at hs1 hd1 ha1;have HR1:=gi (show ∀ s' g',s'=y + sizeT kids[k].tree→y + sizeT kids[k].tree≤256→d + 1 + depthT kids[k].tree≤25→g'=(g2 && wholeT cp top kids[k].tree)→s'=s + 1 + sizeTs ((MRe.trees kids).take (k + 1))∧s'≤256∧d + depthTs ((MRe.trees kids).take (k + 1))≤24∧g'=((g && nb) && ((MRe.trees kids).take (k + 1)).all (wholeT cp top)) from fun s' g' q1 q2 q3 q4=> ⟨by omega,by omega,by omega,by rw [q4,hge,ha1,Bool.and_assoc]⟩);have HR2:=gi (show 256 < y + sizeT kids[k].tree∨25 < d + 1 + depthT kids[k].tree→256 < s + z∨25 < d + dt from fun q=> by have:=HZ.o;have:=HDP.o;omega);have HKW:=gi hkw;have HKV2:=gi hkv;have hdw:IntKind.i64.wrap ((d:Int) + 1)=(d:Int) + 1:=IntWalk.i64_in _ (by have:=HD5.o;omega)
     generalize sizeT kids[k].tree=kz at *
     generalize depthT kids[k].tree=kd at *
     generalize wholeT cp top kids[k].tree=kw at *
     clear hs1 hd1 ha1 hs2 hd2 hc1 hx hkw hkv hkin hEr hSb' hGb' hSm' hGm' hny hg2 hy hy6 hdd hge HI hlt' a2V HZ HDP HEV;go_wp2;refine rg (S:=fun w'=> w'.cell? ⟨C,0,none⟩=some (.func (Fn.func 100) #[] #[.pointer (some ⟨S,0,none⟩),.pointer (some ⟨G,0,none⟩),.pointer (some ⟨B,0,none⟩),.pointer (some ⟨T,0,none⟩),.pointer (some ⟨C,0,none⟩)])∧w'.cell? ⟨b,o + 2,none⟩=some (M (some ⟨b',off,none⟩) kids.length kc)) (fun _ k=> ⟨k.c x1,k.c x2⟩) fun kz hHeld=> ?_;refine tk 0 ?_;refine tk 1 ?_;refine tk 2 ?_;refine tk 3 ?_;refine tk 4 ?_;refine tk 5 ?_;refine tk 6 ?_;refine tk 7 ?_;refine tk 8 ?_;refine j6 9 fun K hK=> ?_;go_simp
     go_at_call 100
     refine Calls.mono (HCALL.o _ ((Keeps.refl [] wr).drew)) ?_;rintro e w3 ⟨r,s3,g3,rfl,hk3,hn3,hb3,hr1,hr2⟩;have K3:=gi ((((Keeps.refl [] wr).drew).mono (S':=[S,G]) (by simp)).trans hk3);have N3:=gi hn3;have B3:=gi hb3;have Q1:=gi hr1;have Q2:=gi hr2;have x1':=gi (K3.o.cell x1 HNC.o);clear hk3 hn3 hb3 hr1 hr2 HCALL;refine hK.out _ _ (⟨x1'.o,K3.o.cell x2 HNB.o⟩) (fun hHeld=> ?_);clear hK K;try go_frame
     refine tk 10 ?_;refine wd ?_
     cases r with
     | true=>
      obtain ⟨p1,p2,p3,p4⟩:=Q1.o rfl;have P:=gi (HR1.o s3 g3 p1 p2 p3 p4);clear p1 p2 p3 p4;go_wp2;go_roundw
      case rel=> exact ⟨k + 1,by omega,by go_num,s3,g3,N3.o,B3.o,P.o.1,P.o.2.1,P.o.2.2.1,P.o.2.2.2,HKW.o.trans K3.o,HKV2.o.trans K3.o⟩
      case measure=> simp [intOf];omega
     | false=>
      have P:=gi (HR2.o (Q2.o rfl));go_wp2;go_ret;exact ⟨false,_,_,rfl,HKW.o.trans K3.o,N3.o,B3.o,by simp,fun _=> P.o⟩
    ·obtain rfl:k=kids.length:=by omega
     have hl0:(MRe.trees kids).take kids.length=MRe.trees kids:=List.take_of_length_le (by rw [MRe.trees_length];omega);rw [hl0] at hy hdd hge;have P:=gi (show y=s + z∧s + z≤256∧d + dt≤25∧g2=(g && wt) from ⟨by rw [hy,HZ.o];omega,by rw [HZ.o];omega,by rw [HDP.o];omega,by rw [hge,HWH.o,Bool.and_assoc]⟩);have HKW:=gi hkw;have N3:=gi hny;have B3:=gi hg2;clear hny hg2 hy hdd hge hkw hkv hy6 HZ HDP HWH;go_wp2;go_ret;exact ⟨true,_,_,rfl,HKW.o,N3.o,B3.o,fun _=> P.o,by simp⟩
end Go.Proofs.YtjnlkjlbejelgaaGreat
