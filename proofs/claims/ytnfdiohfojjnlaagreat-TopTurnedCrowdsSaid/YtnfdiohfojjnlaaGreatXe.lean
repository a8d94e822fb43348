/-
  A call of a function value in a drawn region.
-/
import Derived.Test.YtnfdiohfojjnlaaGreatBb
set_option maxRecDepth 200000
set_option maxHeartbeats 0
namespace Go.Proofs.YtnfdiohfojjnlaaGreat
open Go.RowKit Go.Shelf
theorem z81 {P:Program} {B:Nat} {o:Oper} {ρ:Operand→Value} {W:World} {val:Nat→Value} {s:Sq} (f:FuncId) (x:Operand) (xs:Array Operand) (ats:Array TypeId) (first caps:Array Value) (h:o.op = .call { callee:=.value x,args:=xs,argTypes:=ats }) (args:Array Value) (hf:ρ x = .func (.func f) first caps) (ha:first ++ xs.map ρ ++ caps=args) (hc:∀ args W,(callFunc f args).run P W = .ok (.enter f args) W)
  (hs:Calls P f args W fun e W''=>∃ v,e = .returned v∧Ext W W''∧s.p (s.us.map val) (match o.dst with | some _=>v | none=>undef) W''):zjf P B false o ρ W val s:=by
 obtain ⟨dst,op,type,pos,after,guard⟩:=o;simp only at h;subst h;have e:execOp ρ { dst,op:=.call { callee:=.value x,args:=xs,argTypes:=ats },type,pos,after,guard }=callFunc f (first ++ xs.map ρ ++ caps):=by
  simp only [execOp,resolve,hf];rfl
 unfold zjf;rw [e,ha,hc];exact hs
end Go.Proofs.YtnfdiohfojjnlaaGreat
