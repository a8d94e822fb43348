/-
  Lists of natural numbers in memory, bits of numbers.
-/
import Derived.Test.YtnfdiohfojjnlaaGreatBb
set_option maxRecDepth 200000
set_option maxHeartbeats 0
set_option linter.unusedSimpArgs false
set_option linter.unusedVariables false
namespace Go.Proofs.YtnfdiohfojjnlaaGreat
open Go.RowKit
def zbq (l:List Nat):List Int:=l.map fun (n:Nat)=>(n:Int)
theorem zd6 (l:List Nat):(zbq l).length=l.length:=by simp [zbq]
theorem zabx {l:List Nat} {i:Nat} (h:i < l.length):(zbq l)[i]'(by rw [zd6];exact h)=(l.getD i 0:Int):=by
 simp only [zbq,List.getElem_map];rw [List.getD_eq_getElem?_getD,List.getElem?_eq_getElem h];rfl
theorem zzy {w:World} {sa:Option Addr} {n cap:Nat} {l:List Nat} (h:IsInts w .i64 (.slice sa n cap) (zbq l)) {i:Nat} (hi:i < l.length):∃ sb off,sa=some ⟨sb,off,none⟩∧∀ i,i < l.length→∀ W,Ext w W→W.cell? ⟨sb,off+i,none⟩=some (.int .i64 (l.getD i 0:Int)):=by
 obtain ⟨_,_,e0,-,-,hc⟩:=h.spec;cases e0
 rcases hc with h0 | ⟨sb,off,rfl,hc⟩
 ·have:(zbq l).length=0:=by rw [h0];rfl
  rw [zd6] at this;omega
 ·refine ⟨sb,off,rfl,fun i hi W e=>?_⟩
  have c0:=zj e (hc i (by rw [zd6];exact hi));rw [zabx hi] at c0;exact c0
end Go.Proofs.YtnfdiohfojjnlaaGreat
