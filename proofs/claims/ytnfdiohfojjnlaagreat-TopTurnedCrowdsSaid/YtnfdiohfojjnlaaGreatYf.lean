/-
  What the statements' arguments hold: slices of numbers; and what a statement's call leaves, out of 'nothing that there was has turned'.
-/
import Derived.Test.YtnfdiohfojjnlaaGreatRows
import Derived.Test.YtnfdiohfojjnlaaGreatBb
import Derived.ProofKit
import Derived.OpenShut
import Derived.Carry
import Derived.Lib.SmallJoins
import Derived.Deep.Slices
set_option maxRecDepth 200000
set_option maxHeartbeats 0
namespace Go.Proofs.YtnfdiohfojjnlaaGreat
open Go.ChangeShapes Go.WideShapes Go.ChangeAt Go.RowKit
theorem own:ownKnob Tryz.prog.godebug=none:=by kernel_rfl
theorem laidOut:laidOutB Tryz.prog=true:=by kernel_rfl
section
variable {H:Type} {enc:TypeId × Value→H} {P:Program} {W W':World}
theorem zpg (hl:laidOutB P=true) (hb:Below W.heap.size W W'):∀ (ts:List TypeId) (vs:List Value) (ds:List (DataW H)) (ps:List MemPlace),(∀ t∈ts,P.readableRec t=true∧t < P.types.size)→DataW.TrodAll enc P W 0 (fun _=>true) true ts vs ds ps→(∀ x∈ps,x.block < W.heap.size) →
  DataW.TrodAll enc P W' 0 (fun b=>decide (b < W.heap.size)) true ts vs ds ps
 | [],[],[],ps,_,h,_=>h
 | t :: ts,v :: vs,d :: ds,ps,ht,h,hp=>by
  obtain ⟨p,q,h1,h2,rfl⟩:=h;exact ⟨p,q,Below.trod hl (ht t (by simp)).1 (ht t (by simp)).2 h1 hb (fun x hx=>hp x (by simp [hx])),zpg hl hb ts vs ds q (fun t' h'=>ht t' (by simp [h'])) h2 (fun x hx=>hp x (by simp [hx])),rfl⟩
 | [],_ :: _,_,_,_,h,_=>h.elim
 | [],[],_ :: _,_,_,h,_=>h.elim
 | _ :: _,[],_,_,_,h,_=>h.elim
 | _ :: _,_ :: _,[],_,_,h,_=>h.elim
def htsB (P:Program) (ts:List TypeId):Bool:=ts.all fun t=>P.readableRec t && decide (t < P.types.size)
theorem zadx {ts:List TypeId} (h:htsB P ts=true):∀ t∈ts,P.readableRec t=true∧t < P.types.size:=fun t ht=>by
 have:=List.all_eq_true.1 h t ht;simpa using this
theorem z9p {f:Func} {s:ChangeSpec} {args:Array Value} {ds gs:List (DataW H)} {before:List MemPlace} {tb:TypeId} (hl:laidOutB P=true) (hts:∀ t∈f.params.toList,P.readableRec t=true∧t < P.types.size) (hres:f.resultTypes = #[tb]) (htb:P.underlying tb=some .bool)
  (hW:DataW.Whole enc P f.params.toList s.vars false W args.toList ds gs before) (hvars:s.vars=[]) (hfn:s.fn H ds={ results:=[.lit (.bool true)],args:=ds }) (hb:Below W.heap.size W W') :
  s.post enc P f false true false false W args (.bool true) W':=by
 have hlt:=hW.lt;have hW':=hW;obtain ⟨p,q,hA,hV,rfl,_,_⟩:=hW;rw [hvars] at hV;obtain ⟨rfl,rfl⟩:=trodVars_none hV;have hfn':s.fn H (ds ++ [])={ results:=[.lit (.bool true)],args:=ds }:=by rw [List.append_nil];exact hfn
 refine ⟨ds,[],p ++ [],[],p,[],hW',?_,?_,?_,World.keptBut_mono (fun x hx=>⟨hx,?_⟩) (hb.frame (·∈p ++ [])),fun h=>by cases h⟩
 ·rw [hres,hfn']
  exact ⟨[],[],shut_bool htb true,rfl,rfl⟩
 ·rw [hfn']
  exact zpg hl hb _ _ _ _ hts hA fun x hx=>hlt x (by simp [hx])
 ·rw [hfn',hvars]
  rfl
 ·right;left;simpa using hx
end
section
variable {H:Type} {enc:TypeId × Value→H} {W:World} {sp:Nat→Bool} {held:Bool} {base b0:Nat} {r:Reach}
theorem z9q {t e:TypeId} {sz:Nat} (ht:Tryz.prog.underlying t=some (.slice e)) (hc:Tryz.prog.cellsOf e=sz) (hs0:0 < sz) {n:Nat} {v:Value} {y:DataW H × List MemPlace} (h:DataW.trod enc Tryz.prog W base sp held n t [v]=some y) :
  ∃ rows:List (List Value),IsRows W sz v rows∧∀ row∈rows,row.length=sz∧∃ m y',DataW.trod enc Tryz.prog W base sp held m e row=some y':=by
 rcases Go.Deep.open_slice ht h with ⟨h1,_⟩ | ⟨a,len,cap,m,n,D,Pl,h1,_,h2,h3,h4,_,h5⟩
 ·cases h1
  exact ⟨[],⟨none,0,rfl,by simp,by omega,.inl rfl⟩,by simp⟩
 ·cases h1
  have hlm:len≤m:=by rw [h4];split<;>omega
  obtain ⟨rows,hr1,hr2⟩:∃ rows:List (List Value),rows.length=len∧∀ i (hi:i < rows.length),W.cells? base (a.add (i * sz)) sz=some rows[i]∧∃ y',DataW.trod enc Tryz.prog W base sp held n e rows[i]=some y':=by
   have key:∀ k,k≤len→∃ rows:List (List Value),rows.length=k∧∀ i (hi:i < rows.length),W.cells? base (a.add (i * sz)) sz=some rows[i]∧∃ y',DataW.trod enc Tryz.prog W base sp held n e rows[i]=some y':=by
    intro k
    induction k with
    | zero=>exact fun _=>⟨[],rfl,fun i hi=>by simp at hi⟩
    | succ k ih =>
     intro hk;obtain ⟨rows,q1,q2⟩:=ih (by omega);obtain ⟨cs',q3,q4⟩:=h5 k (by omega);rw [hc] at q3;refine ⟨rows ++ [cs'],by simp [q1],fun i hi=>?_⟩
     by_cases hik:i < rows.length
     ·rw [List.getElem_append_left hik];exact q2 i hik
     ·have hik':i=k:=by simp at hi;omega
      subst hik';rw [List.getElem_append_right (by omega)];simp only [q1,Nat.sub_self,List.getElem_cons_zero];exact ⟨q3,_,q4⟩
   exact key len (Nat.le_refl _)
  subst hr1;refine ⟨rows,⟨some a,cap,rfl,h2,by simpa [maxLen] using h3,?_⟩,fun row hrow=>?_⟩
  ·by_cases hz:rows=[]
   ·exact .inl hz
   ·have hr0:0 < rows.length:=List.length_pos_iff.2 hz
    obtain ⟨_,q2,q3⟩:=World.cells?_some (hr2 0 hr0).1;have q4:=q3 0 hs0;rw [List.getElem?_eq_getElem (by omega)] at q4;simp [Addr.add] at q4;have hsp:=World.cell?_spot q4
    right
    obtain ⟨ab,ao,asp⟩:=a;simp only at hsp;subst hsp;refine ⟨ab,ao,rfl,fun i hi j hj=>?_⟩;obtain ⟨_,q5,q6⟩:=World.cells?_some (hr2 i hi).1;have q7:=q6 j (by omega);rw [List.getElem?_eq_getElem hj,addr_add,addr_add] at q7;exact q7
  ·obtain ⟨i,hi,rfl⟩:=List.getElem_of_mem hrow
   obtain ⟨q1,y',q2⟩:=hr2 i hi;exact ⟨(World.cells?_some q1).2.1,n,y',q2⟩
theorem z0n {α:Type} (f:α→List Value):∀ (rows:List (List Value)),(∀ r∈rows,∃ x,r=f x)→∃ l:List α,rows=l.map f
 | [],_=>⟨[],rfl⟩
 | r :: rs,h=>by
  obtain ⟨x,rfl⟩:=h r (by simp);obtain ⟨l,rfl⟩:=z0n f rs fun r hr=>h r (by simp [hr])
  exact ⟨x :: l,rfl⟩
end
end Go.Proofs.YtnfdiohfojjnlaaGreat
