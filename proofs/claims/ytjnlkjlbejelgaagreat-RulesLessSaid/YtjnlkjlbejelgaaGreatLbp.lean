/- The frame of the law: its numbers as integers. No condition: every lemma says its own. -/
import Derived.Test.YtjnlkjlbejelgaaGreatLbo
import Derived.OpenShut
namespace Go.Proofs.YtjnlkjlbejelgaaGreat
open Go.RowKit
open Go.Value renaming int→H,slice→M,bool→F
open Go.IntKind renaming i64→J
theorem i64_of_wf {x:Int} (h:(Lit.int .i64 x).wf=true):I64 x:=by
 simp [Lit.wf] at h;have e:IntKind.i64.min= -9223372036854775808:=rfl;rw [e] at h;exact h
theorem in_of_row {w:World} {a:Option Addr} {len cap:Nat} {zs:List Int}
  (h:(a=none∧len=0∧cap=0∧zs=[])∨∃ x,a=some x∧len≤cap∧cap≤maxLen∧zs.length=cap∧(∀ i,i < zs.length→w.cell? (x.add i)=some (H J (zs.getD i 0)))∧∀ n∈zs,(Lit.int .i64 n).wf=true):
  (zs.take len).length=len∧IntsIn w a (zs.take len)∧(∀ x∈zs.take len,I64 x)∧len≤9223372036854775807:=by
 rcases h with ⟨rfl,rfl,rfl,rfl⟩ | ⟨x,rfl,hl,hm,hz,hc,hw⟩
 ·exact ⟨rfl,fun h=> by simp at h,by simp,by omega⟩
 ·refine ⟨by simp;omega,fun h0=> ?_,fun y hy=> i64_of_wf (hw y (List.mem_of_mem_take hy)),by unfold maxLen at hm;omega⟩;simp at h0;have h1:=hc 0 (by omega);obtain ⟨b,off,sp⟩:=x;have hs:sp=none:=by
   cases sp with
   | none=> rfl
   | some s=> simp [Addr.add,World.cell?] at h1;split at h1 <;> simp at h1
  subst hs;refine ⟨b,off,rfl,fun j hj=> ?_⟩;simp at hj;have h2:=hc j (by omega);have hadd:(⟨b,off,none⟩:Addr).add j=⟨b,off + j,none⟩:=by unfold Addr.add;split <;> simp_all
  rw [hadd] at h2;have hj2:j < zs.length:=by omega
  rw [h2];simp [hj,hj2]
end Go.Proofs.YtjnlkjlbejelgaaGreat
