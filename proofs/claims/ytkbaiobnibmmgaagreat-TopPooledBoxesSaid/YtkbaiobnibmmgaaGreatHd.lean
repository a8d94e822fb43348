/-
  What the statements' arguments hold: slices of numbers; and what a statement's call leaves, out of 'nothing that there was has turned'.
-/
import Derived.Test.YtkbaiobnibmmgaaGreatRows
import Derived.Test.YtkbaiobnibmmgaaGreatBb
import Derived.ProofKit
import Derived.OpenShut
import Derived.Carry
import Derived.Lib.SmallJoins
import Derived.Deep.Slices
import Derived.Test.YtkbaiobnibmmgaaGreatPc
import Derived.Deep.Strs
namespace Go.Proofs.YtkbaiobnibmmgaaGreat
open Go.ChangeShapes Go.WideShapes Go.ChangeAt Go.RowKit
theorem own:ownKnob Tryz.prog.godebug=none:=by kernel_rfl
theorem laidOut:laidOutB Tryz.prog=true:=by kernel_rfl
section
variable {H:Type} {enc:TypeId × Value→H} {P:Program} {W W':World}
theorem zmv (hl:laidOutB P=true) (hb:Below W.heap.size W W'):∀ (ts:List TypeId) (vs:List Value) (ds:List (DataW H)) (ps:List MemPlace),(∀ t∈ts,P.readableRec t=true∧t < P.types.size)→DataW.TrodAll enc P W 0 (fun _=>true) true ts vs ds ps→(∀ x∈ps,x.block < W.heap.size) →
  DataW.TrodAll enc P W' 0 (fun b=>decide (b < W.heap.size)) true ts vs ds ps
 | [],[],[],ps,_,h,_=>h
 | t :: ts,v :: vs,d :: ds,ps,ht,h,hp=>by
  obtain ⟨p,q,h1,h2,rfl⟩:=h
  exact ⟨p,q,Below.trod hl (ht t (by simp)).1 (ht t (by simp)).2 h1 hb (fun x hx=>hp x (by simp [hx])),zmv hl hb ts vs ds q (fun t' h'=>ht t' (by simp [h'])) h2 (fun x hx=>hp x (by simp [hx])),rfl⟩
 | [],_ :: _,_,_,_,h,_=>h.elim
 | [],[],_ :: _,_,_,h,_=>h.elim
 | _ :: _,[],_,_,_,h,_=>h.elim
 | _ :: _,_ :: _,[],_,_,h,_=>h.elim
def htsB (P:Program) (ts:List TypeId):Bool:=ts.all fun t=>P.readableRec t && decide (t < P.types.size)
theorem z9q {ts:List TypeId} (h:htsB P ts=true):∀ t∈ts,P.readableRec t=true∧t < P.types.size:=fun t ht=>by
 have:=List.all_eq_true.1 h t ht
 simpa using this
theorem z6i {f:Func} {s:ChangeSpec} {args:Array Value} {ds gs:List (DataW H)} {before:List MemPlace} {tb:TypeId} (hl:laidOutB P=true) (hts:∀ t∈f.params.toList,P.readableRec t=true∧t < P.types.size) (hres:f.resultTypes = #[tb]) (htb:P.underlying tb=some .bool)
  (hW:DataW.Whole enc P f.params.toList s.vars false W args.toList ds gs before) (hvars:s.vars=[]) (hfn:s.fn H ds={ results:=[.lit (.bool true)],args:=ds }) (hb:Below W.heap.size W W') :
  s.post enc P f false true false false W args (.bool true) W':=by
 have hlt:=hW.lt
 have hW':=hW
 obtain ⟨p,q,hA,hV,rfl,_,_⟩:=hW
 rw [hvars] at hV
 obtain ⟨rfl,rfl⟩:=trodVars_none hV
 have hfn':s.fn H (ds ++ [])={ results:=[.lit (.bool true)],args:=ds }:=by rw [List.append_nil];exact hfn
 refine ⟨ds,[],p ++ [],[],p,[],hW',?_,?_,?_,World.keptBut_mono (fun x hx=>⟨hx,?_⟩) (hb.frame (·∈p ++ [])),fun h=>by cases h⟩
 ·rw [hres,hfn']
  exact ⟨[],[],shut_bool htb true,rfl,rfl⟩
 ·rw [hfn']
  exact zmv hl hb _ _ _ _ hts hA fun x hx=>hlt x (by simp [hx])
 ·rw [hfn',hvars]
  rfl
 ·right;left;simpa using hx
end
section
variable {H:Type} {enc:TypeId × Value→H} {W:World} {sp:Nat→Bool} {held:Bool} {base b0:Nat} {r:Reach}
theorem zxz {t e:TypeId} {sz:Nat} (ht:Tryz.prog.underlying t=some (.slice e)) (hc:Tryz.prog.cellsOf e=sz) (hs0:0 < sz) {n:Nat} {v:Value} {y:DataW H × List MemPlace} (h:DataW.trod enc Tryz.prog W base sp held n t [v]=some y) :
  ∃ rows:List (List Value),IsRows W sz v rows∧∀ row∈rows,row.length=sz∧∃ m y',DataW.trod enc Tryz.prog W base sp held m e row=some y':=by
 rcases Go.Deep.open_slice ht h with ⟨h1,_⟩ | ⟨a,len,cap,m,n,D,Pl,h1,_,h2,h3,h4,_,h5⟩
 ·cases h1
  exact ⟨[],⟨none,0,rfl,by simp,by omega,.inl rfl⟩,by simp⟩
 ·cases h1
  have hlm:len≤m:=by rw [h4];split<;>omega
  obtain ⟨rows,hr1,hr2⟩:∃ rows:List (List Value),rows.length=len∧∀ i (hi:i < rows.length),W.cells? base (a.add (i * sz)) sz=some rows[i]∧∃ y',DataW.trod enc Tryz.prog W base sp held n e rows[i]=some y':=by
   have key:∀ k,k≤len→∃ rows:List (List Value),rows.length=k∧∀ i (hi:i < rows.length),W.cells? base (a.add (i * sz)) sz=some rows[i]∧∃ y',DataW.trod enc Tryz.prog W base sp held n e rows[i]=some y':=by
    intro k
    induction k with
    | zero=>exact fun _=>⟨[],rfl,fun i hi=>by simp at hi⟩
    | succ k ih =>
     intro hk
     obtain ⟨rows,q1,q2⟩:=ih (by omega)
     obtain ⟨cs',q3,q4⟩:=h5 k (by omega)
     rw [hc] at q3
     refine ⟨rows ++ [cs'],by simp [q1],fun i hi=>?_⟩
     by_cases hik:i < rows.length
     ·rw [List.getElem_append_left hik];exact q2 i hik
     ·have hik':i=k:=by simp at hi;omega
      subst hik'
      rw [List.getElem_append_right (by omega)]
      simp only [q1,Nat.sub_self,List.getElem_cons_zero]
      exact ⟨q3,_,q4⟩
   exact key len (Nat.le_refl _)
  subst hr1
  refine ⟨rows,⟨some a,cap,rfl,h2,by simpa [maxLen] using h3,?_⟩,fun row hrow=>?_⟩
  ·by_cases hz:rows=[]
   ·exact .inl hz
   ·have hr0:0 < rows.length:=List.length_pos_iff.2 hz
    obtain ⟨_,q2,q3⟩:=World.cells?_some (hr2 0 hr0).1
    have q4:=q3 0 hs0
    rw [List.getElem?_eq_getElem (by omega)] at q4
    simp [Addr.add] at q4
    have hsp:=World.cell?_spot q4
    right
    obtain ⟨ab,ao,asp⟩:=a
    simp only at hsp
    subst hsp
    refine ⟨ab,ao,rfl,fun i hi j hj=>?_⟩
    obtain ⟨_,q5,q6⟩:=World.cells?_some (hr2 i hi).1
    have q7:=q6 j (by omega)
    rw [List.getElem?_eq_getElem hj,addr_add,addr_add] at q7
    exact q7
  ·obtain ⟨i,hi,rfl⟩:=List.getElem_of_mem hrow
   obtain ⟨q1,y',q2⟩:=hr2 i hi
   exact ⟨(World.cells?_some q1).2.1,n,y',q2⟩
theorem zqk {α:Type} (f:α→List Value):∀ (rows:List (List Value)),(∀ r∈rows,∃ x,r=f x)→∃ l:List α,rows=l.map f
 | [],_=>⟨[],rfl⟩
 | r :: rs,h=>by
  obtain ⟨x,rfl⟩:=h r (by simp)
  obtain ⟨l,rfl⟩:=zqk f rs fun r hr=>h r (by simp [hr])
  exact ⟨x :: l,rfl⟩
end
end Go.Proofs.YtkbaiobnibmmgaaGreat
namespace Go.Proofs.YtkbaiobnibmmgaaGreat
open Go.ChangeShapes Go.WideShapes Go.ChangeAt Go.RowKit
section
variable {H:Type} {enc:TypeId × Value→H} {W:World} {sp:Nat→Bool} {held:Bool} {base b0:Nat} {r:Reach}
theorem zx0 {P:Program} {t:TypeId} {f0 f1 f2 f3 f4 f5 f6 f7:Field} {fuel:Nat} {cs:List Value} {x:DataW H × List MemPlace} (ht:P.underlying t=some (.struct #[f0,f1,f2,f3,f4,f5,f6,f7])) (h:DataW.trod enc P W base sp held fuel t cs=some x) :
  ∃ y0 y1 y2 y3 y4 y5 y6 y7 n,DataW.trod enc P W base sp held n f0.type ((cs.drop f0.offset).take (P.cellsOf f0.type))=some y0∧DataW.trod enc P W base sp held n f1.type ((cs.drop f1.offset).take (P.cellsOf f1.type))=some y1 ∧
   DataW.trod enc P W base sp held n f2.type ((cs.drop f2.offset).take (P.cellsOf f2.type))=some y2∧DataW.trod enc P W base sp held n f3.type ((cs.drop f3.offset).take (P.cellsOf f3.type))=some y3 ∧
   DataW.trod enc P W base sp held n f4.type ((cs.drop f4.offset).take (P.cellsOf f4.type))=some y4∧DataW.trod enc P W base sp held n f5.type ((cs.drop f5.offset).take (P.cellsOf f5.type))=some y5 ∧
   DataW.trod enc P W base sp held n f6.type ((cs.drop f6.offset).take (P.cellsOf f6.type))=some y6∧DataW.trod enc P W base sp held n f7.type ((cs.drop f7.offset).take (P.cellsOf f7.type))=some y7:=by
 obtain ⟨xs,n,_,rfl,hl,hlen,hf⟩:=DataW.trod_struct ht h
 match xs,hlen with
 | [y0,y1,y2,y3,y4,y5,y6,y7],_=>exact ⟨y0,y1,y2,y3,y4,y5,y6,y7,n,by simpa using hf 0 f0 rfl,by simpa using hf 1 f1 rfl,by simpa using hf 2 f2 rfl,by simpa using hf 3 f3 rfl,by simpa using hf 4 f4 rfl,by simpa using hf 5 f5 rfl,by simpa using hf 6 f6 rfl,by simpa using hf 7 f7 rfl⟩
theorem z9r {α:Type} {cs:Array α} (h:cs.size=8):∃ c0 c1 c2 c3 c4 c5 c6 c7,cs = #[c0,c1,c2,c3,c4,c5,c6,c7]:=by
 obtain ⟨l⟩:=cs
 match l,h with
 | [c0,c1,c2,c3,c4,c5,c6,c7],_=>exact ⟨c0,c1,c2,c3,c4,c5,c6,c7,rfl⟩
set_option maxRecDepth 100000 in
theorem z6j {n:Nat} {v:Value} {y:DataW H × List MemPlace} (h:DataW.trod enc Tryz.prog W base sp held n 23 [v]=some y):∃ l:List Int,IsInts W .i64 v l:=by
 obtain ⟨rows,hr,hx⟩:=zxz Tryz.underlying23 (sz:=1) (by kernel_rfl) (by omega) h
 obtain ⟨l,rfl⟩:=zqk (fun n=>[Value.int .i64 n]) rows fun row hrow=>by
  obtain ⟨hl,m,y',ht⟩:=hx row hrow
  obtain ⟨x,rfl,_,_⟩:=DataW.trod_int Tryz.underlying3 ht
  exact ⟨x,rfl⟩
 exact ⟨l,hr⟩
set_option maxRecDepth 100000 in
theorem z6k {n:Nat} {v:Value} {y:DataW H × List MemPlace} (h:DataW.trod enc Tryz.prog W base sp held n 22 [v]=some y):∃ l:List PB,IsBets W v l:=by
 have c1:Tryz.prog.cellsOf 3=1:=by kernel_rfl
 have c2:Tryz.prog.cellsOf 2=1:=by kernel_rfl
 obtain ⟨rows,hr,hx⟩:=zxz Tryz.underlying22 (sz:=3) (by kernel_rfl) (by omega) h
 obtain ⟨l,rfl⟩:=zqk zla rows fun row hrow=>by
  obtain ⟨hl,m,y',ht⟩:=hx row hrow
  match row,hl with
  | [v0,v1,v2],_ =>
   obtain ⟨y0,y1,y2,n,_,_,h0,h1,h2⟩:=Go.Deep.trod_struct3 Tryz.underlying36 ht
   have g0:DataW.trod enc Tryz.prog W base sp held n 3 [v0]=some y0:=by simpa [c1] using h0
   have g1:DataW.trod enc Tryz.prog W base sp held n 3 [v1]=some y1:=by simpa [c1] using h1
   have g2:DataW.trod enc Tryz.prog W base sp held n 2 [v2]=some y2:=by simpa [c2] using h2
   obtain ⟨f,hf,_⟩:=DataW.trod_int Tryz.underlying3 g0
   obtain ⟨s,hs,_⟩:=DataW.trod_int Tryz.underlying3 g1
   obtain ⟨u,hu,_⟩:=DataW.trod_int Tryz.underlying2 g2
   cases hf;cases hs;cases hu
   exact ⟨⟨f,s,u⟩,rfl⟩
 exact ⟨l,hr⟩
set_option maxRecDepth 100000 in
theorem z6l {v:Value} {d:DataW H} {p:List MemPlace} (hv:Value.okWide Tryz.prog W r b0 25 v) (h:DataW.Trod enc Tryz.prog W base sp held 25 v d p) :
  ∃ (b:Bk) (ba sa:Option Addr) (bcap scap:Nat),v = .agg #[.int .i64 b.kd,.int .i64 b.n,.slice ba b.bets.length bcap,.slice sa b.scr.length scap,.bool b.fav,.int .i64 b.car,.int .i64 b.duty,.int .i64 b.step]∧IsBook W b ba bcap sa scap:=by
 have hs:=Tryz.underlying25
 have hC:Tryz.prog.cellsOf 25=8:=by kernel_rfl
 have c1:Tryz.prog.cellsOf 3=1:=by kernel_rfl
 have c2:Tryz.prog.cellsOf 2=1:=by kernel_rfl
 have c3:Tryz.prog.cellsOf 22=1:=by kernel_rfl
 have c4:Tryz.prog.cellsOf 23=1:=by kernel_rfl
 have c5:Tryz.prog.cellsOf 4=1:=by kernel_rfl
 obtain ⟨cs,rfl,hsz⟩:=okWide_struct hs hv
 obtain ⟨v0,v1,v2,v3,v4,v5,v6,v7,rfl⟩:=z9r (hsz.trans hC)
 obtain ⟨fuel,hf⟩:=h
 obtain ⟨y0,y1,y2,y3,y4,y5,y6,y7,n,h0,h1,h2,h3,h4,h5,h6,h7⟩:=zx0 hs hf
 have g0:DataW.trod enc Tryz.prog W base sp held n 3 [v0]=some y0:=by simpa [Value.cells,c1] using h0
 have g1:DataW.trod enc Tryz.prog W base sp held n 3 [v1]=some y1:=by simpa [Value.cells,c1] using h1
 have g2:DataW.trod enc Tryz.prog W base sp held n 22 [v2]=some y2:=by simpa [Value.cells,c3] using h2
 have g3:DataW.trod enc Tryz.prog W base sp held n 23 [v3]=some y3:=by simpa [Value.cells,c4] using h3
 have g4:DataW.trod enc Tryz.prog W base sp held n 4 [v4]=some y4:=by simpa [Value.cells,c5] using h4
 have g5:DataW.trod enc Tryz.prog W base sp held n 2 [v5]=some y5:=by simpa [Value.cells,c2] using h5
 have g6:DataW.trod enc Tryz.prog W base sp held n 2 [v6]=some y6:=by simpa [Value.cells,c2] using h6
 have g7:DataW.trod enc Tryz.prog W base sp held n 2 [v7]=some y7:=by simpa [Value.cells,c2] using h7
 obtain ⟨kd,e0,_⟩:=DataW.trod_int Tryz.underlying3 g0
 obtain ⟨nn,e1,_⟩:=DataW.trod_int Tryz.underlying3 g1
 obtain ⟨bets,hb⟩:=z6k g2
 obtain ⟨scr,hsc⟩:=z6j g3
 obtain ⟨fav,e4,_⟩:=DataW.trod_bool Tryz.underlying4 g4
 obtain ⟨car,e5,_⟩:=DataW.trod_int Tryz.underlying2 g5
 obtain ⟨duty,e6,_⟩:=DataW.trod_int Tryz.underlying2 g6
 obtain ⟨step,e7,_⟩:=DataW.trod_int Tryz.underlying2 g7
 cases e0;cases e1;cases e4;cases e5;cases e6;cases e7
 obtain ⟨ba,bcap,rfl,_,_,_⟩:=hb.spec
 obtain ⟨sa,scap,rfl,_,_,_⟩:=hsc.spec
 exact ⟨⟨kd,nn,bets,scr,fav,car,duty,step⟩,ba,sa,bcap,scap,rfl,hb,hsc⟩
end
end Go.Proofs.YtkbaiobnibmmgaaGreat
