/- Part 44 of the proof. No condition: every lemma says its own. -/
import Derived.Test.YtjnlkjlbejelgaaGreatQba
namespace Go.Proofs.YtjnlkjlbejelgaaGreat
open Go.RowKit
open Go.Value renaming int→H,slice→M,bool→F
open Go.IntKind renaming i64→J
set_option maxRecDepth 100000
set_option maxHeartbeats 16000000
def nameV (k:Nat):Value:=(tableCells[k * 2]?).getD (.string ⟨#[]⟩)
def namesV:Nat→List Value
 | 0=> []
 | k + 1=> namesV k ++ [nameV k]
theorem namesV_succ (k:Nat):namesV (k + 1)=namesV k ++ [nameV k]:=rfl
theorem names2_any (w:World):Calls Tryz.prog 15 #[] w fun e w'=> ∃ g c,e=.returned (M (some ⟨g,0,none⟩) 17 c)∧Keeps [] w w'∧SliceAt w' 9 1 (some g) 17 c (namesV 17):=by
 obtain ⟨i0,hi0,hz0,hz1,hz2⟩:=info_parts infoS;have Hi:=gi hi0;have Hz0:=gi hz0;have Hz1:=gi hz1;have Hz2:=gi hz2;clear hi0 hz0 hz1 hz2;go_enter Tryz.func15,Tryz.ntmps15
 go_wp2_with fail
 refine Calls.mono (table_any w) ?_;rintro e w2 ⟨g,rfl,htab,hk,hg⟩;have HT:=gi htab;have HK:=gi hk;clear htab hk hg;go_wp2
 go_loopw [1,6] (fun v i wr=> ∃ (k:Nat) (a:Option Nat) (c:Nat),k≤17∧i=H J k∧v=sv a k c∧SliceAt wr 9 1 a k c (namesV k)∧Keeps [] w wr∧Keeps [] w2 wr∧(∀ g,a=some g→w2.heap.size≤g)) (fun _ i _=> 17 - (intOf i).toNat)
 case atStart=> exact ⟨0,none,0,by omega,rfl,rfl,SliceAt.nil _ _ _,HK.o,Keeps.refl _ _,by simp⟩
 case round=>
  obtain ⟨k,a,c,hk,rfl,rfl,hsl,hkw,hk2,hga⟩:=hrel;have HSL:=gi hsl;have HKW:=gi hkw;have HK2:=gi hk2;have HGA:=gi hga;clear hsl hkw hga
  by_cases hlt:k < 17
  ·have hlti:(k:Int) < 17:=by omega
   obtain ⟨b,hb,hnv⟩:∃ b,tableCells[k * 2]? =some (.string b)∧nameV k=.string b:=by
    obtain rfl | rfl | rfl | rfl | rfl | rfl | rfl | rfl | rfl | rfl | rfl | rfl | rfl | rfl | rfl | rfl | rfl:k=0∨k=1∨k=2∨k=3∨k=4∨k=5∨k=6∨k=7∨k=8∨k=9∨k=10∨k=11∨k=12∨k=13∨k=14∨k=15∨k=16:=by omega
    all_goals exact ⟨_,rfl,rfl⟩
   have x0:wr.cell? ⟨g,k * 2,none⟩=some (.string b):=hk2.cell (by simp only [World.cell?,HT.o];exact hb) (by simp);have x1:wr.cell? ⟨g,k * 2 + 1,none⟩=some (.func (Fn.func (ruleFn k)) #[] #[]):=hk2.cell (table_cell HT.o k hlt) (by simp);obtain ⟨F',hF⟩:∃ F',F'=ruleFn k:=⟨_,rfl⟩;rw [←hF] at x1;have HNV:=gi (show namesV (k + 1)=namesV k ++ [.string b] by rw [namesV_succ,hnv]);clear hk2 hb hF hnv
   go_wp2_with (at_builtin;refine wpList_append_sl rfl (.tmp 10) (.tmp 13) 39 rfl 9 i0 _ 1 16 Tryz.underlying39 Hi.o Hz0.o Hz1.o Hz2.o rfl (by decide) a k c (namesV k) rfl ((HSL.o.alloc _).alloc _) ⟨wr.heap.size + 1,0,none⟩ 1 1 [.string b] rfl rfl ?hnews ?hone (by decide) (by omega) (by omega) ?hk)
   case hnews=> exact news_row' _ _ _ _ (by simp)
   case hone=> intro u hu;simp at hu;subst hu;rfl
   case hk=>
    intro g' c2 w3 hsl3 hk3 hg3;have hga:∀ x∈a.toList,w2.heap.size≤x:=fun x hx=> HGA.o x (by simpa using hx);have hw2:=HK.o.size;have K3:=gi ((HKW.o.trans (Keeps.a2 _ _ _)).after hk3 (fun x hx=> .inr (by have:=hga x hx;omega)));have K4:=gi ((HK2.o.trans (Keeps.a2 _ _ _)).after hk3 (fun x hx=> .inr (hga x hx)));have S3:=gi (show SliceAt w3 9 1 (some g') (k + 1) c2 (namesV (k + 1)) by rw [HNV.o];exact hsl3);have G3:=gi (show w2.heap.size≤g' by
     rcases hg3 with h | h
     ·exact HGA.o g' h
     ·have h:wr.heap.size + 1 + 1≤g':=h
      have:=HK2.o.size
      omega)
    clear hsl3 hk3 hg3 hga hw2 x0 x1;go_wp2;go_roundw
    case rel=> exact ⟨k + 1,some g',c2,by omega,by go_num,rfl,S3.o,K3.o,K4.o,fun x hx=> by cases hx;exact G3.o⟩
    case measure=> simp [intOf];omega
  ·obtain rfl:k=17:=by omega
   cases a with
   | none=> have:=HSL.o.2.1;omega
   | some g'=>
    simp only [sv,Option.map_some];clear hlt hk hk2;go_wp2;go_ret;exact ⟨g',c,rfl,HKW.o,HSL.o⟩
theorem rnames_any (w:World):Calls Tryz.prog 16 #[] w fun e w'=> ∃ g c,e=.returned (M (some ⟨g,0,none⟩) 17 c)∧Keeps [] w w'∧SliceAt w' 9 1 (some g) 17 c (namesV 17):=by
 go_enter Tryz.func16,Tryz.ntmps16
 go_wp2;go_ret;exact ⟨w.heap.size,17,rfl,Keeps.a1 _ _,by rw [show namesV 17=_ from rfl];exact SliceAt.of_row (size:=1) (c:=17) (heap_alloc_new w _) rfl (by simp [maxLen])⟩
end Go.Proofs.YtjnlkjlbejelgaaGreat
