/-
  Small laws that the walks of all chapters share: calls at worlds that have grown, operations of drawn regions, slices and rows that a call has made.
-/
import Derived.Test.YtnfdiohfojjnlaaGreatBa
import Derived.StillTailTactics
import Derived.IntWalk
import Derived.Laws.CopyOwn
import Derived.Deep.Cut
import Derived.ArgAppend
import Derived.OwnWalkIn
set_option maxRecDepth 200000
set_option maxHeartbeats 0
namespace Go.Proofs.YtnfdiohfojjnlaaGreat
open Go.RowKit Go.Shelf
def upd {α:Type} (f:Nat→α) (i:Nat) (v:α):Nat→α:=fun j=>if j=i then v else f j
theorem zabu {α:Type} (f:Nat→α) {i j:Nat} (v:α) (h:j≠i):upd f i v j=f j:=by simp [upd,h]
theorem zhm {P:Program} {f:FuncId} {args:Array Value} {W0 W:World} {g:Gr W0} {v:Value} {Q:Ending→World→Prop} (hW:Ext (grow W0 g) W) (h:Calls P f args W fun e w'=>e = .returned v∧Ext W w')
  (k:∀ g',Ext (grow W0 g) (grow W0 g')→Q (.returned v) (grow W0 g')):Calls P f args W Q :=
 h.mono fun e w' ⟨he,hb⟩=>by
  have h1:=hW.trans' hb;obtain ⟨g',rfl⟩:=zk3 (Ext.trans' (zax W0 g) h1);subst he;exact k g' h1
theorem ztj {cur:Array Value} {o:Nat} (v:Value) (h:o < cur.size):(cur.setIfInBounds o v)[o]? = some v:=by
 rw [Array.getElem?_setIfInBounds,if_pos rfl,if_pos h]
theorem zp {W:World} {b:Nat} {cur:Array Value} {t:TypeId} (h:W.heap[b]? = some (.cells cur t (0,0))) (o:Nat) (v:Value) :
  (W.setCell ⟨b,o,none⟩ v).heap[b]? = some (.cells (cur.setIfInBounds o v) t (0,0)):=by
 simp [World.setCell,Array.getElem?_modify,h]
theorem Owns.isSlice {w:World} {B:Nat} {e:TypeId} {sz:Nat} {v:Value} {rows:List (List Value)} (h:Owns w B e sz v rows):∃ sa n cap,v = .slice sa n cap:=by
 obtain ⟨sa,cap,e,_⟩:=h.form;exact ⟨sa,_,cap,e⟩
def zam (n:Int):List Value:=[.int .i64 n]
def Src (w:World) (sz:Nat) (A:Option Addr) (news:List (List Value)):Prop:=(A=none∧news=[])∨∃ b off,A=some ⟨b,off,none⟩∧RowsAt w sz b off news
theorem Src.ext {w w':World} (h:Ext w w') {sz:Nat} {A:Option Addr} {news:List (List Value)} (s:Src w sz A news):Src w' sz A news:=by
 rcases s with s | ⟨b,off,e,s⟩
 ·exact .inl s
 ·exact .inr ⟨b,off,e,s.ext h⟩
theorem zabv {w:World} {t e:TypeId} {sz:Nat} (el:El t e sz) (ty:TypeId) (B:Nat) {v:Value} {rows:List (List Value)} (hown:Owns w B e sz v rows) (A:Option Addr) (c:Nat) (news:List (List Value))
  (hr:∀ r∈news,r.length=sz) (hs:Src w sz A news) (h1:∀ r∈news,∀ u∈r,u.oneCell'=true) (hn:rows.length+news.length≤1000000) (hB:B≤w.heap.size) :
  ∃ v' w',(Builtin.append_ #[t,t] ty #[v,.slice A news.length c]).run Tryz.prog w = .ok v' w'∧Owns w' B e sz v' (rows ++ news)∧Kept (fun k=>some k≠v.ownBlock) w w':=by
 obtain ⟨i,z,hi,hz,hsi,hby,hzs⟩:=el.info
 rcases hs with ⟨rfl,rfl⟩ | ⟨b,off,rfl,hc⟩
 ·refine ⟨v,w,?_,by simpa using hown,Kept.refl _ _⟩
  rcases hown.1.2 with ⟨rfl,hn0⟩ | ⟨g,cap,cur,rfl,_,_,hnc,_⟩
  ·simp [Builtin.append_,run_underlying el.und,sizeOf,typeInfo,hi,Builtin.lenOf,Builtin.firstCells]
  ·simp [Builtin.append_,run_underlying el.und,sizeOf,typeInfo,hi,Builtin.lenOf,Builtin.firstCells,hnc,storeCells]
 ·obtain ⟨v',w',hrun,ho,hg,_⟩:=run_append_own (P:=Tryz.prog) w B t ty e i z sz i.bytes el.und hi hz hsi rfl hzs el.pos v rows.length rows.flatten hown.1 ⟨b,off,none⟩ news.length c news.flatten (zbw hr)
   (fun j u hj=>by rw [addr_add];exact zez hr hc j u hj) (fun u hu=>by obtain ⟨r,hr1,hr2⟩:=List.mem_flatten.1 hu;exact h1 r hr1 u hr2) (by simp [maxLen];omega)
   (by have:=Nat.mul_le_mul hn hby;omega) hB
  refine ⟨v',w',hrun,⟨by simpa using ho,fun r hr'=>?_⟩,⟨hg.os,hg.tape,hg.output,hg.size,hg.block⟩⟩
  rcases List.mem_append.1 hr' with h | h
  ·exact hown.2 r h
  ·exact hr r h
theorem newRow (w:World) (l:List Value) (T:TypeId):RowsAt (w.alloc (.cells l.toArray T)) l.length w.heap.size 0 [l] :=
 z4q fun j hj=>by
  have hg:(w.alloc (.cells l.toArray T)).heap[w.heap.size]? = some (.cells l.toArray T (0,0)):=by
   show (w.heap.push _)[w.heap.size]? = _;rw [Array.getElem?_push,if_pos rfl]
  rw [cell_of_row _ _ _ _ _ _ hg];simp [hj]
theorem z8x (w:World) (l:List Value) (T:TypeId) (b n:Nat) (hb:b=w.heap.size) (hn:n=l.length):RowsAt (w.alloc (.cells l.toArray T)) n b 0 [l]:=by
 subst hb hn;exact newRow w l T
section
variable {w:World}
theorem zae4 {ops:Array Oper} {rest:List Oper} {o:Oper} {a:Act} {Q:Exit→Act→World→Prop} (hgd:o.guard=none) (s x:Operand) {t e:TypeId} {sz:Nat} (el:El t e sz)
  (ho:o.op = .call { callee:=.builtin .append,args:=#[s,x],argTypes:=#[t,t] }) (B:Nat) {v:Value} {rows:List (List Value)} (hs:a.eval s=v) (hown:Owns w B e sz v rows)
  (A:Option Addr) (c:Nat) (news:List (List Value)) (hx:a.eval x = .slice A news.length c) (hr:∀ r∈news,r.length=sz) (hc:Src w sz A news) (h1:∀ r∈news,∀ u∈r,u.oneCell'=true)
  (hn:rows.length+news.length≤1000000) (hB:B≤w.heap.size)
  (h:∀ v' w',Owns w' B e sz v' (rows ++ news)→Kept (fun k=>some k≠v.ownBlock) w w'→wpList Tryz.prog ops Q rest (a.put o.dst v') w'):wpList Tryz.prog ops Q (o :: rest) a w :=
 wpList_plain hgd fun K hK=>by
  obtain ⟨v',w',hrun,h2,h3⟩:=zabv el o.type B hown A c news hr hc h1 hn hB;unfold Oper.wp execOp;simp only [ho,resolve,invoke,builtin,Sem.run_bind,Sem.run_pure,Result.andThen_ok,List.map_toArray,List.map_cons,List.map_nil,hs,hx,hrun];exact hK _ _ (h v' w' h2 h3)
end
theorem Owns.keep {W W':World} {B B':Nat} {e e':TypeId} {sz sz':Nat} {v v':Value} {rows rows':List (List Value)} (hne:e≠e') (h:Owns W B e sz v rows) (h':Owns W B' e' sz' v' rows') (k:Kept (fun k=>some k≠v'.ownBlock) W W') :
  Owns W' B e sz v rows:=by
 refine ⟨⟨h.1.1,?_⟩,h.2⟩
 rcases h.1.2 with a | ⟨g,cap,cur,hv,hb,hg,hr⟩
 ·exact .inl a
 ·refine .inr ⟨g,cap,cur,hv,hb,?_,hr⟩
  have hl:=(Array.getElem?_eq_some_iff.1 hg).1;refine (k.same g hl fun hh=>?_).trans hg
  rcases h'.1.2 with ⟨rfl,_⟩ | ⟨g',cap',cur',rfl,_,hg',_⟩
  ·simp [Value.ownBlock] at hh
  ·simp only [Value.ownBlock,Option.some.injEq] at hh
   subst hh;rw [hg] at hg';cases hg';exact hne rfl
theorem Owns.keptBelow {W W':World} {B:Nat} {e:TypeId} {sz:Nat} {v:Value} {rows:List (List Value)} (h:Owns W B e sz v rows) (hB:B≤W.heap.size) (k:Kept (fun k=>some k≠v.ownBlock) W W'):Below B W W':=by
 refine Kept.below (k.mono fun j _ hj hh=>?_) hB
 rcases h.1.2 with ⟨rfl,_⟩ | ⟨g',cap',cur',rfl,hb,_⟩
 ·simp [Value.ownBlock] at hh
 ·simp only [Value.ownBlock,Option.some.injEq] at hh
  omega
theorem zfz:El 22 3 1:=El.mk' (bytes:=8) (z:=.int .i64 0) (by kernel_rfl) (by kernel_rfl) rfl (by omega) (by omega)
theorem Owns.oneInts {W:World} {B:Nat} {v:Value} {l:List Int} (h:Owns W B 3 1 v (l.map zam)):IsInts W .i64 v l:=h.isRows
section
variable {P:Program} {B:Nat} {strong:Bool} {o:Oper} {ρ:Operand→Value} {W:World} {val:Nat→Value} {s:Sq}
theorem zh {v:Value} {W':World} (h:(execOp ρ o).run P W = .ok (.value v) W') (he:Eff B strong W W') (hs:s.p (s.us.map val) (match o.dst with | some _=>v | none=>undef) W'):zjf P B strong o ρ W val s:=by
 unfold zjf;rw [h];exact ⟨he,hs⟩
theorem z6n {W':World} (h:(execOp ρ o).run P W = .ok .skip W') (he:Eff B strong W W') (hs:s.p (s.us.map val) undef W'):zjf P B strong o ρ W val s:=by
 unfold zjf;rw [h];exact ⟨he,hs⟩
theorem zem (x y:Operand) {t ty:TypeId} (h:o.op = .call { callee:=.builtin .append,args:=#[x,y],argTypes:=#[t,t] }) (hty:o.type=ty) (xv yv:Value) (hx:ρ x=xv) (hy:ρ y=yv) {v:Value} {W':World} (hr:(Builtin.append_ #[t,t] ty #[xv,yv]).run P W = .ok v W')
  (he:Eff B strong W W') (hs:s.p (s.us.map val) (match o.dst with | some _=>v | none=>undef) W'):zjf P B strong o ρ W val s:=by
 refine zh (v:=v) (W':=W') ?_ he hs;unfold execOp;simp only [h,resolve,invoke,builtin,Sem.run_bind,Sem.run_pure,Result.andThen_ok,List.map_toArray,List.map_cons,List.map_nil,hx,hy,hty,hr]
end
theorem zct {P:Program} {B:Nat} {o:Oper} {ρ:Operand→Value} {W:World} {val:Nat→Value} {s:Sq} (f:FuncId) (xs:Array Operand) (ats:Array TypeId) (h:o.op = .call { callee:=.value (.func f),args:=xs,argTypes:=ats }) (args:Array Value) (hf:ρ (.func f) = .func (.func f) #[] #[]) (ha:xs.map ρ=args) (hc:∀ args W,(callFunc f args).run P W = .ok (.enter f args) W)
  (hs:Calls P f args W fun e W''=>∃ v,e = .returned v∧Ext W W''∧s.p (s.us.map val) (match o.dst with | some _=>v | none=>undef) W''):zjf P B false o ρ W val s:=by
 obtain ⟨dst,op,type,pos,after,guard⟩:=o;simp only at h;subst h;have e:execOp ρ { dst,op:=.call { callee:=.value (.func f),args:=xs,argTypes:=ats },type,pos,after,guard }=callFunc f (#[] ++ xs.map ρ ++ #[]):=by
  simp only [execOp,resolve,hf];rfl
 unfold zjf;rw [e];have e2 : #[] ++ xs.map ρ ++ #[]=args:=by rw [ha];simp
 rw [e2,hc];exact hs
def z4r (w:World) (B:Nat) (e:TypeId) (sz:Nat) (v:Value):Prop:=∃ g,v = .slice (some ⟨g,0,none⟩) 0 0∧Owns w B e sz v []
theorem z4r.ext {w w':World} {B:Nat} {e:TypeId} {sz:Nat} {v:Value} (h:z4r w B e sz v) (k:Ext w w'):z4r w' B e sz v:=by
 obtain ⟨g,h1,h2⟩:=h;exact ⟨g,h1,h2.ext k⟩
theorem Owns.setOther {w:World} {B:Nat} {e T:TypeId} {sz b:Nat} {v:Value} {rows:List (List Value)} (h:Owns w B e sz v rows) {cur:Array Value} (hb:w.heap[b]? = some (.cells cur T (0,0))) (hne:e≠T) (o:Nat) (x:Value):Owns (w.setCell ⟨b,o,none⟩ x) B e sz v rows:=by
 refine ⟨⟨h.1.1,?_⟩,h.2⟩
 rcases h.1.2 with a | ⟨g,cap,cur',hv,hbb,hg,hr⟩
 ·exact .inl a
 ·refine .inr ⟨g,cap,cur',hv,hbb,?_,hr⟩
  rw [Below.heap_setCell _ _ _ _ (fun e'=>?_)]
  ·exact hg
  ·simp only at e'
   subst e';rw [hb] at hg;cases hg;exact hne rfl
structure IntsB (cur:Array Value) (n:Nat) (k:IntKind) (f:Nat→Int):Prop where
 size:cur.size=n
 at_:∀ j,j < n→cur[j]? = some (.int k (f j))
theorem IntsB.set {cur:Array Value} {n:Nat} {k:IntKind} {f:Nat→Int} (h:IntsB cur n k f) (i:Nat) (v:Int):IntsB (cur.setIfInBounds i (.int k v)) n k (upd f i v):=by
 refine ⟨by simp [h.size],fun j hj=>?_⟩
 by_cases e:i=j
 ·subst e
  rw [Array.getElem?_setIfInBounds_self_of_lt (by rw [h.size];exact hj)];simp [upd]
 ·rw [Array.getElem?_setIfInBounds_ne e,h.at_ j hj,zabu _ _ (fun h=>e h.symm)]
theorem zwz {w:World} {B g N:Nat} {T:TypeId} {k:IntKind} (h:w.ownsRow B T 1 (.slice (some ⟨g,0,none⟩) N N) N (madeCells #[.int k 0] N).toList):∃ cur,w.heap[g]? = some (.cells cur T (0,0))∧IntsB cur N k (fun _=>0):=by
 rcases h.2 with ⟨e,_⟩ | ⟨g',cap',cur,e,_,hg',_,_,hcs,ht⟩
 ·cases e
 ·cases e
  refine ⟨cur,hg',by omega,fun j hj=>?_⟩;have hl:(madeCells #[Value.int k 0] N).toList.length=N:=by simp [h.1]
  have e1:cur.toList[j]? = (madeCells #[Value.int k 0] N).toList[j]?:=by
   rw [← ht];rw [List.getElem?_take_of_lt (by simpa using hj)]
  rw [← Array.getElem?_toList,e1];simp [madeCells,hj,Nat.mod_one]
theorem RowsAt.drop {w:World} {sz b off:Nat} {rows:List (List Value)} (h:RowsAt w sz b off rows) (k:Nat):RowsAt w sz b (off+k * sz) (rows.drop k):=fun i hi j hj=>by
 have hi':k+i < rows.length:=by simp at hi;omega
 have e:(rows.drop k)[i]=rows[k+i]:=by simp
 rw [e] at hj;have:=h (k+i) hi' j hj;rw [Nat.add_mul,← Nat.add_assoc] at this;rw [this]
 congr 1
 exact (List.getElem_of_eq e (by simpa using hj)).symm
theorem RowsAt.take {w:World} {sz b off:Nat} {rows:List (List Value)} (h:RowsAt w sz b off rows) (k:Nat):RowsAt w sz b off (rows.take k):=fun i hi j hj=>by
 have hi':i < rows.length:=by simp at hi;omega
 have e:(rows.take k)[i]=rows[i]:=by simp
 rw [e] at hj;have:=h i hi' j hj;rw [this]
 congr 1
 exact (List.getElem_of_eq e (by simpa using hj)).symm
theorem z2h {F:Fence} {n:Nat} {P:Program} {w:World} {ops:Array Oper} {rest:List Oper} {o:Oper} {a:Act} {Q:Exit→Act→World→Prop} (hgd:o.guard=none) (s x:Operand) {t ty:TypeId}
  (ho:o.op = .call { callee:=.builtin .append,args:=#[s,x],argTypes:=#[t,t] }) (hty:o.type=ty) {v xv v':Value} {w':World} (hs:a.eval s=v) (hx:a.eval x=xv) (hrun:(Builtin.append_ #[t,t] ty #[v,xv]).run P w = .ok v' w')
  (h:wpListIn F n P ops Q rest (a.put o.dst v') w'):wpListIn F n P ops Q (o :: rest) a w :=
 wpListIn_plain hgd fun K hK=>by
  unfold Oper.wpIn;refine ⟨?_,?_⟩
  ·simp [Oper.about,ho,resolve,Target.leads,Sem.run_pure]
  ·rw [Oper.semAt_plain F _ _ (by rw [ho];intro c hc';cases hc')]
   simp [execOp,ho,resolve,invoke,builtin,hs,hx,hty,hrun,Result.andThen];exact hK _ _ h
theorem zhw {w:World} {t e:TypeId} {sz:Nat} (el:El t e sz) (ty:TypeId) (B:Nat) {v:Value} {rows:List (List Value)} (hown:Owns w B e sz v rows) (b off c:Nat) (news:List (List Value))
  (hr:∀ r∈news,r.length=sz) (hs:RowsAt w sz b off news) (h1:∀ r∈news,∀ u∈r,u.oneCell'=true) (hn:rows.length+news.length≤1000000) (hB:B≤w.heap.size) :
  ∃ v' w',(Builtin.append_ #[t,t] ty #[v,.slice (some ⟨b,off,none⟩) news.length c]).run Tryz.prog w = .ok v' w'∧Owns w' B e sz v' (rows ++ news)∧Kept (fun k=>some k≠v.ownBlock) w w'∧(∀ g,v'.ownBlock=some g→v.ownBlock=some g∨w.heap.size≤g):=by
 obtain ⟨i,z,hi,hz,hsi,hby,hzs⟩:=el.info;have hfl:∀ j u,news.flatten[j]? = some u→w.cell? ((⟨b,off,none⟩:Addr).add j)=some u:=fun j u hj=>by rw [addr_add];exact zez hr hs j u hj
 have h1f:∀ u∈news.flatten,u.oneCell'=true:=fun u hu=>by obtain ⟨r,hr1,hr2⟩:=List.mem_flatten.1 hu;exact h1 r hr1 u hr2
 have hby2:(rows.length+news.length) * i.bytes≤140737488355328:=by have:=Nat.mul_le_mul hn hby;omega
 have hrr:∀ r∈rows ++ news,r.length=sz:=fun r hr'=>by
  rcases List.mem_append.1 hr' with h | h
  ·exact hown.2 r h
  ·exact hr r h
 have hkept:∀ {w':World} {x:Option Nat},w.grownBy w' x→(x=none∨x=v.ownBlock)→Kept (fun k=>some k≠v.ownBlock) w w':=fun hg hx =>
  (Kept.refl _ w).grown hg fun k e _ hk=>by
   rcases hx with hx | hx
   ·rw [hx] at e;cases e
   ·rw [hx] at e;exact hk e.symm
 rcases hown.1.2 with ⟨rfl,hn0⟩ | ⟨g,cap,cur,rfl,hb,hg,hnc,hm,hsz,ht⟩
 ·have h0:rows=[]:=List.eq_nil_of_length_eq_zero hn0
  subst h0;obtain ⟨v',w',hrun,ho,hg,_⟩:=run_append_own (P:=Tryz.prog) w w.heap.size t ty e i z sz i.bytes el.und hi hz hsi rfl hzs el.pos (.slice none 0 0) 0 [] (World.ownsRow_nil w _ e sz) ⟨b,off,none⟩ news.length c news.flatten (zbw hr)
   hfl h1f (by simp [maxLen] at *;omega) (by simpa using hby2) (Nat.le_refl _)
  have ho':Owns w' w.heap.size e sz v' ([] ++ news):=⟨by simpa using ho,hrr⟩
  exact ⟨v',w',hrun,ho'.base hB,hkept hg (.inr rfl),fun k hk=>.inr (ho'.1.lt k hk).1⟩
 ·by_cases hroom:rows.length+news.length≤cap
  ·obtain ⟨w',hrun,ho,hg2⟩:=run_append_fits (P:=Tryz.prog) w B t ty e i sz el.und hi hsi g rows.length cap rows.flatten hown.1 ⟨b,off,none⟩ news.length c news.flatten (zbw hr) hfl h1f hroom
   exact ⟨_,w',hrun,⟨by simpa using ho,hrr⟩,hkept hg2 (.inr rfl),fun k hk=>.inl hk⟩
  ·obtain ⟨v',w',hrun,ho,hg2⟩:=run_append_arg_grows (P:=Tryz.prog) w t ty e i z sz i.bytes el.und hi hz hsi rfl hzs el.pos ⟨g,0,none⟩ rows.length cap rows.flatten (zbw hown.2)
    (fun j u hj=>hown.1.cells rfl j u hj) ⟨b,off,none⟩ news.length c news.flatten (zbw hr) hfl (by omega) (by simp [maxLen];omega) hby2
   have ho':Owns w' w.heap.size e sz v' (rows ++ news):=⟨by simpa using ho,hrr⟩
   exact ⟨v',w',hrun,ho'.base hB,hkept hg2 (.inl rfl),fun k hk=>.inr (ho'.1.lt k hk).1⟩
theorem zvm {F:Fence} {n:Nat} {w:World} {ops:Array Oper} {rest:List Oper} {o:Oper} {a:Act} {Q:Exit→Act→World→Prop} (hgd:o.guard=none) (s x:Operand) {t e:TypeId} {sz:Nat} (el:El t e sz)
  (ho:o.op = .call { callee:=.builtin .append,args:=#[s,x],argTypes:=#[t,t] }) (B:Nat) {v:Value} {rows:List (List Value)} (hs:a.eval s=v) (hown:Owns w B e sz v rows)
  (b off c:Nat) (news:List (List Value)) (hx:a.eval x = .slice (some ⟨b,off,none⟩) news.length c) (hr:∀ r∈news,r.length=sz) (hc:RowsAt w sz b off news) (h1:∀ r∈news,∀ u∈r,u.oneCell'=true)
  (hn:rows.length+news.length≤1000000) (hB:B≤w.heap.size)
  (h:∀ v' w',Owns w' B e sz v' (rows ++ news)→Kept (fun k=>some k≠v.ownBlock) w w'→(∀ g,v'.ownBlock=some g→v.ownBlock=some g∨w.heap.size≤g)→wpListIn F n Tryz.prog ops Q rest (a.put o.dst v') w'):wpListIn F n Tryz.prog ops Q (o :: rest) a w:=by
 obtain ⟨v',w',hrun,h2,h3,h4⟩:=zhw el o.type B hown b off c news hr hc h1 hn hB;exact z2h hgd s x ho rfl hs hx hrun (h v' w' h2 h3 h4)
theorem zn6 {w:World} {t e:TypeId} {sz:Nat} (el:El t e sz) (ty:TypeId) (ao:Option Addr) (n cap:Nat) {rows:List (List Value)} (hl:n=rows.length) (hrows:∀ r∈rows,r.length=sz) (hold:(ao=none∧rows=[]∧cap=0)∨∃ b off,ao=some ⟨b,off,none⟩∧RowsAt w sz b off rows)
  (b off c:Nat) (news:List (List Value)) (hr:∀ r∈news,r.length=sz) (hs:RowsAt w sz b off news) (h1:∀ r∈news,∀ u∈r,u.oneCell'=true) (hfull:cap < n+news.length) (hn:rows.length+news.length≤1000000) :
  ∃ v' w',(Builtin.append_ #[t,t] ty #[.slice ao n cap,.slice (some ⟨b,off,none⟩) news.length c]).run Tryz.prog w = .ok v' w'∧Owns w' w.heap.size e sz v' (rows ++ news)∧Ext w w':=by
 subst hl;obtain ⟨i,z,hi,hz,hsi,hby,hzs⟩:=el.info;have hfl:∀ j u,news.flatten[j]? = some u→w.cell? ((⟨b,off,none⟩:Addr).add j)=some u:=fun j u hj=>by rw [addr_add];exact zez hr hs j u hj
 have h1f:∀ u∈news.flatten,u.oneCell'=true:=fun u hu=>by obtain ⟨r,hr1,hr2⟩:=List.mem_flatten.1 hu;exact h1 r hr1 u hr2
 have hby2:(rows.length+news.length) * i.bytes≤140737488355328:=by have:=Nat.mul_le_mul hn hby;omega
 have hrr:∀ r∈rows ++ news,r.length=sz:=fun r hr'=>by
  rcases List.mem_append.1 hr' with h | h
  ·exact hrows r h
  ·exact hr r h
 rcases hold with ⟨rfl,rfl,rfl⟩ | ⟨g,o,rfl,hc⟩
 ·obtain ⟨v',w',hrun,ho,hg,_⟩:=run_append_own (P:=Tryz.prog) w w.heap.size t ty e i z sz i.bytes el.und hi hz hsi rfl hzs el.pos (.slice none 0 0) 0 [] (World.ownsRow_nil w _ e sz) ⟨b,off,none⟩ news.length c news.flatten (zbw hr)
   hfl h1f (by simp [maxLen] at *;omega) (by simpa using hby2) (Nat.le_refl _)
  exact ⟨v',w',hrun,⟨by simpa using ho,hrr⟩,(Below.refl _ w).grown hg (Nat.le_refl _) fun k hk=>by cases hk⟩
 ·obtain ⟨v',w',hrun,ho,hg2⟩:=run_append_arg_grows (P:=Tryz.prog) w t ty e i z sz i.bytes el.und hi hz hsi rfl hzs el.pos ⟨g,o,none⟩ rows.length cap rows.flatten (zbw hrows)
   (fun j u hj=>by rw [addr_add];exact zez hrows hc j u hj) ⟨b,off,none⟩ news.length c news.flatten (zbw hr) hfl (by omega) (by simp [maxLen];omega) hby2
  exact ⟨v',w',hrun,⟨by simpa using ho,hrr⟩,(Below.refl _ w).grown hg2 (Nat.le_refl _) fun k hk=>by cases hk⟩
theorem ziz (w:World) (rows:List (List Value)) (arr:Array Value) (T:TypeId) (b sz:Nat) (hb:b=w.heap.size) (hr:∀ r∈rows,r.length=sz) (ha:arr.toList=rows.flatten):RowsAt (w.alloc (.cells arr T)) sz b 0 rows:=by
 subst hb;refine zpn hr fun j u hj=>?_
 have hg:(w.alloc (.cells arr T)).heap[w.heap.size]? = some (.cells arr T (0,0)):=by
  show (w.heap.push _)[w.heap.size]? = _;rw [Array.getElem?_push,if_pos rfl]
 rw [cell_of_row _ _ _ _ _ _ hg,Nat.zero_add,← Array.getElem?_toList,ha];exact hj
theorem Owns.notOwn {w:World} {B:Nat} {e:TypeId} {sz:Nat} {v:Value} {rows:List (List Value)} (h:Owns w B e sz v rows):∀ g,v.ownBlock=some g→B≤g∧g < w.heap.size:=h.1.lt
theorem Owns.putOther {w:World} {B:Nat} {e:TypeId} {sz:Nat} {v:Value} {rows:List (List Value)} (h:Owns w B e sz v rows) {D:Nat} {x:Option (List Deferred)} (hD:w.heap[D]? = some (.deferred x)) (o:Obj):Owns (w.putObj D o) B e sz v rows:=by
 refine ⟨⟨h.1.1,?_⟩,h.2⟩
 rcases h.1.2 with a | ⟨g,cap,cur,hv,hb,hg,hr⟩
 ·exact .inl a
 ·refine .inr ⟨g,cap,cur,hv,hb,(World.putObj_heap_other fun e=>?_).trans hg,hr⟩
  subst e;rw [hD] at hg;cases hg
theorem Owns.keptAt {S:Nat→Prop} {w w':World} {B:Nat} {e:TypeId} {sz:Nat} {v:Value} {rows:List (List Value)} (h:Owns w B e sz v rows) (k:Kept S w w') (hs:∀ g cur,B≤g→v.ownBlock=some g→w.heap[g]? = some (.cells cur e (0,0))→S g):Owns w' B e sz v rows:=by
 refine ⟨⟨h.1.1,?_⟩,h.2⟩
 rcases h.1.2 with a | ⟨g,cap,cur,hv,hb,hg,hr⟩
 ·exact .inl a
 ·exact .inr ⟨g,cap,cur,hv,hb,(k.same g (Array.getElem?_eq_some_iff.1 hg).1 (hs g cur hb (by rw [hv];rfl) hg)).trans hg,hr⟩
def zzo (ty ety:TypeId) (sz bO B:Nat) (rows:List (List Value)) (O:Nat→Prop) (W:World):Prop :=
 ∃ v,W.heap[bO]? = some (.cells #[v] ty (0,0))∧Owns W B ety sz v rows∧∀ g,v.ownBlock=some g→¬ O g
theorem zzo.kept {ty ety:TypeId} {sz bO B:Nat} {rows:List (List Value)} {O O':Nat→Prop} {A A':World} {S:Nat→Prop} (h:zzo ty ety sz bO B rows O A) (k:Kept S A A') (h1:S bO) (h2:∀ g,B≤g→¬ O g→S g) (h3:∀ g,O' g→O g∨A.heap.size≤g):zzo ty ety sz bO B rows O' A':=by
 obtain ⟨v,a,b,c⟩:=h;refine ⟨v,(k.same bO (Array.getElem?_eq_some_iff.1 a).1 h1).trans a,?_,fun g hg ho=>?_⟩
 ·refine ⟨⟨b.1.1,?_⟩,b.2⟩
  rcases b.1.2 with q | ⟨g,cap,cur,hv,hb,hg,hr⟩
  ·exact .inl q
  ·refine .inr ⟨g,cap,cur,hv,hb,(k.same g (Array.getElem?_eq_some_iff.1 hg).1 (h2 g hb (c g ?_))).trans hg,hr⟩
   subst hv;rfl
 ·rcases h3 g ho with q | q
  ·exact c g hg q
  ·have:=(b.notOwn g hg).2;omega
section
variable {K V:Type} [DecidableEq K]
abbrev zae (K V:Type):=List (K × V × Nat)
def zar (ke:K→Value) (ve:V→Value) (e:K × V × Nat):MapEntry:={ key:=ke e.1,val:=ve e.2.1,born:=e.2.2 }
def IsMap (ke:K→Value) (ve:V→Value) (W:World) (r:Nat) (es:zae K V) (clock:Nat):Prop :=
 W.heap[r]? = some (.map (es.map (zar ke ve)).toArray clock)
def zbd (ve:V→Value) (k:K):zae K V→Nat→Option (Nat × Value)
 | [],_=>none
 | e :: es,i=>if e.1=k then some (i,ve e.2.1) else zbd ve k es (i+1)
def zc3 (es:zae K V) (k:K):Option V:=(es.find? fun e=>decide (e.1=k)).map (·.2.1)
def zkp (k:K) (v:V) (clock:Nat) (es:zae K V):zae K V :=
 match es.findIdx? (fun e=>decide (e.1=k)) with
 | some i=>es.modify i fun e=>(k,v,e.2.2)
 | none=>es ++ [(k,v,clock)]
def ztk (k:K) (clock:Nat) (es:zae K V):Nat:=if (es.findIdx? (fun e=>decide (e.1=k))).isSome then clock else clock+1
def zd3 (k:K) (es:zae K V):zae K V:=es.filter fun e=>decide (e.1≠k)
structure Keyed (P:Program) (tm tk tv:TypeId) (ke:K→Value) (ve:V→Value):Prop where
 und:P.underlying tm=some (.map tk tv)
 chk:∀ b k w,(Instr.checkKey b 10000 tk (ke k)).run P w = .ok () w
 find:∀ k (l:zae K V) w,(Instr.findKey tk (ke k) (l.map (zar ke ve))).run P w = .ok (zbd ve k l 0) w
 stay:∀ k,Instr.sameBits 10000 (ke k) (ke k)=true
theorem zhn (ve:V→Value) (k:K):∀ (es:zae K V) (i:Nat),zbd ve k es i=(es.findIdx? fun e=>decide (e.1=k)).bind fun j=>(es[j]?).map fun e=>(i+j,ve e.2.1)
 | [],_=>rfl
 | e :: es,i=>by
  unfold zbd
  by_cases h:e.1=k
  ·simp [h,List.findIdx?_cons]
  ·rw [if_neg h,zhn ve k es (i+1)]
   simp only [List.findIdx?_cons,h,decide_false,Bool.false_eq_true,if_false];cases es.findIdx? fun e=>decide (e.1=k) with
   | none=>rfl
   | some j =>
    simp only [Option.map_some,Option.bind_some,List.getElem?_cons_succ]
    congr 1
    funext e
    simp;omega
theorem zzp (k:K) (es:zae K V):es.find? (fun e=>decide (e.1=k))=(es.findIdx? fun e=>decide (e.1=k)).bind (es[·]?):=by
 induction es with
 | nil=>rfl
 | cons e es ih =>
  simp only [List.find?_cons,List.findIdx?_cons]
  by_cases h:e.1=k
  ·simp [h]
  ·simp only [h,decide_false,Bool.false_eq_true,if_false]
   rw [ih];cases es.findIdx? fun e=>decide (e.1=k)<;>simp
theorem zpo (ve:V→Value) (k:K) (es:zae K V):(zbd ve k es 0).map (·.2)=(zc3 es k).map ve:=by
 rw [zhn,zc3,zzp];cases h:es.findIdx? fun e=>decide (e.1=k) with
 | none=>rfl
 | some j=>simp only [Option.bind_some,Option.map_map];rfl
theorem z8y (k k':K) (v:V) (clock:Nat) (es:zae K V):zc3 (zkp k v clock es) k'=if k'=k then some v else zc3 es k':=by
 unfold zc3 zkp;cases h:es.findIdx? fun e=>decide (e.1=k) with
 | none =>
  rw [List.findIdx?_eq_none_iff] at h;simp only [List.find?_append]
  by_cases hk:k'=k
  ·subst hk
   rw [List.find?_eq_none.2 (by simpa using h)];simp
  ·simp only [hk,if_false]
   cases hf:es.find? fun e=>decide (e.1=k') with
   | some e=>simp
   | none=>simp [Ne.symm hk]
 | some i =>
  rw [List.findIdx?_eq_some_iff_getElem] at h;obtain ⟨hi,h1,h2⟩:=h;have h1':es[i].1=k:=by simpa using h1
  clear h1;simp only
  induction es generalizing i with
  | nil=>simp at hi
  | cons e es ih =>
   cases i with
   | zero =>
    simp only [List.getElem_cons_zero] at h1';simp only [List.modify_zero_cons,List.find?_cons]
    by_cases hk:k'=k
    ·simp [hk]
    ·have:e.1≠k':=fun e'=>hk (e'.symm.trans h1')
     simp [hk,Ne.symm hk,this]
   | succ i =>
    simp only [List.modify_succ_cons,List.find?_cons];have h0:=h2 0 (by omega);simp at h0
    by_cases he:e.1=k'
    ·have hk:k'≠k:=fun h=>h0 (he.trans h)
     simp [he,hk]
    ·simp only [he,decide_false]
     exact ih i (by simpa using hi) (fun j hj=>by have:=h2 (j+1) (by omega);simpa using this) (by simpa using h1')
theorem z8z (k k':K) (es:zae K V):zc3 (zd3 k es) k'=if k'=k then none else zc3 es k':=by
 unfold zc3 zd3
 by_cases hk:k'=k
 ·subst hk
  simp only [if_true,Option.map_eq_none_iff,List.find?_eq_none];intro e he;simp at he ⊢;exact he.2
 ·simp only [hk,if_false]
  congr 1
  induction es with
  | nil=>rfl
  | cons e es ih =>
   simp only [List.filter_cons]
   by_cases h:e.1=k
   ·simp only [h,ne_eq,not_true,decide_false,Bool.false_eq_true,if_false,List.find?_cons]
    have:¬ k=k':=fun h=>hk h.symm
    simp only [this,decide_false];exact ih
   ·simp only [ne_eq,h,not_false_iff,decide_true,if_true,List.find?_cons]
    by_cases h':e.1=k'
    ·simp [h']
    ·simp only [h',decide_false];exact ih
def zcg (es:zae K V):Prop:=(es.map (·.1)).Nodup
theorem zcg.upd {es:zae K V} (h:zcg es) (k:K) (v:V) (c:Nat):zcg (zkp k v c es):=by
 unfold zcg zkp at *;cases hf:es.findIdx? fun e=>decide (e.1=k) with
 | none =>
  rw [List.findIdx?_eq_none_iff] at hf;simp only [List.map_append,List.map_cons,List.map_nil];rw [List.nodup_append];refine ⟨h,by simp,?_⟩;intro a ha b hb;simp at hb;subst hb;rw [List.mem_map] at ha;obtain ⟨e,he,rfl⟩:=ha;simpa using hf e he
 | some i =>
  rw [List.findIdx?_eq_some_iff_getElem] at hf;obtain ⟨hi,h1,_⟩:=hf;have h1':es[i].1=k:=by simpa using h1
  have:(es.modify i fun e=>(k,v,e.2.2)).map (·.1)=es.map (·.1):=by
   apply List.ext_getElem (by simp);intro j hj1 hj2;simp only [List.getElem_map,List.getElem_modify]
   split
   ·rename_i e;subst e;exact h1'.symm
   ·rfl
  simp only [this];exact h
theorem zcg.del {es:zae K V} (h:zcg es) (k:K):zcg (zd3 k es):=by
 unfold zcg zd3 at *;exact List.Nodup.sublist (List.Sublist.map _ List.filter_sublist) h
omit [DecidableEq K] in
theorem z80:zcg ([]:zae K V):=List.Pairwise.nil
variable {P:Program} {tm tk tv:TypeId} {ke:K→Value} {ve:V→Value} (hk:Keyed P tm tk tv ke ve)
include hk
theorem zyd {W:World} {r:Nat} {es:zae K V} {c:Nat} (hm:IsMap ke ve W r es c) (k:K) {v:V} (hg:zc3 es k=some v) :
  (Instr.lookup tm (.map (some r)) (ke k) true).run P W = .ok (.tuple #[ve v,.bool true]) W:=by
 have h1:=zpo ve k es;rw [hg] at h1;obtain ⟨p,hp,hp2⟩:=Option.map_eq_some_iff.1 h1;obtain ⟨i,u⟩:=p;simp only at hp2;subst hp2;have hf:=hk.find k es W;rw [hp] at hf;unfold IsMap at hm;simp [Instr.lookup,run_underlying hk.und,getObj,Sem.run,hm,hk.chk,hf]
theorem ztl {W:World} {r:Nat} {es:zae K V} {c:Nat} (hm:IsMap ke ve W r es c) (k:K) (hg:zc3 es k=none) {z:Value} (hz:∀ w,(zeroValue tv).run P w = .ok z w) :
  (Instr.lookup tm (.map (some r)) (ke k) true).run P W = .ok (.tuple #[z,.bool false]) W:=by
 have h1:=zpo ve k es;rw [hg] at h1;have hp:zbd ve k es 0=none:=by simpa using h1
 have hf:=hk.find k es W;rw [hp] at hf;unfold IsMap at hm;simp [Instr.lookup,run_underlying hk.und,getObj,Sem.run,hm,hk.chk,hf,hz]
theorem ztm {W:World} {r:Nat} {es:zae K V} {c:Nat} (hm:IsMap ke ve W r es c) (k:K) (v:V) :
  (Instr.mapUpdate tm (.map (some r)) (ke k) (ve v)).run P W = .ok () (W.putObj r (.map ((zkp k v c es).map (zar ke ve)).toArray (ztk k c es))):=by
 have hf:=hk.find k es W;rw [zhn] at hf;unfold IsMap at hm;unfold zkp ztk;cases hi:es.findIdx? fun e=>decide (e.1=k) with
 | none =>
  rw [hi] at hf;simp only [Option.bind_none] at hf;simp [Instr.mapUpdate,run_underlying hk.und,getObj,setObj,Sem.run,hm,hk.chk,hf,World.putObj,zar]
 | some i =>
  rw [hi] at hf;rw [List.findIdx?_eq_some_iff_getElem] at hi;obtain ⟨hl,h1,_⟩:=hi;have h1':es[i].1=k:=by simpa using h1
  simp only [Option.bind_some,List.getElem?_eq_getElem hl,Option.map_some] at hf;have hky:(((es.map (zar ke ve)).toArray[i]?).map (·.key)).getD (ke k)=ke k:=by
   simp [hl,zar,h1']
  have e2:((es.map (zar ke ve)).modify i fun e=>{ e with key:=ke k,val:=ve v })=(es.modify i fun e=>(k,v,e.2.2)).map (zar ke ve):=by
   apply List.ext_getElem (by simp);intro j hj1 hj2;simp only [List.getElem_modify,List.getElem_map]
   split
   ·rename_i e;simp [zar]
   ·rfl
  have hky':(Option.map ((fun x=>x.key) ∘ zar ke ve) es[i]?).getD (ke k)=ke k:=by simpa using hky
  have hst:(Instr.keyThatStays (ke k) (ke k)).run P W = .ok (ke k) W:=by simp [Instr.keyThatStays,hk.stay]
  simp [Instr.mapUpdate,run_underlying hk.und,getObj,setObj,Sem.run,hm,hk.chk,hf,World.putObj];rw [hky',hst];simp [hm,e2]
omit [DecidableEq K] hk in
theorem zpd {α β:Type} (f:α→β):∀ (l:List α) (i:Nat),(l.map f).eraseIdx i=(l.eraseIdx i).map f
 | [],_=>rfl
 | _ :: _,0=>rfl
 | a :: l,i+1=>by simp [zpd f l i]
theorem z4s {W:World} {r:Nat} {es:zae K V} {c:Nat} (hm:IsMap ke ve W r es c) (ho:zcg es) (k:K) (ty:TypeId) :
  (Builtin.delete_ #[tm,tk] ty #[.map (some r),ke k]).run P W = .ok (.tuple #[]) (W.putObj r (.map ((zd3 k es).map (zar ke ve)).toArray c)):=by
 have hf:=hk.find k es W;rw [zhn] at hf;unfold IsMap at hm;cases hi:es.findIdx? fun e=>decide (e.1=k) with
 | none =>
  rw [hi] at hf;simp only [Option.bind_none] at hf;rw [List.findIdx?_eq_none_iff] at hi;have e:zd3 k es=es:=by
   unfold zd3;rw [List.filter_eq_self];intro a ha;simpa using hi a ha
  rw [e];simp [Builtin.delete_,run_underlying hk.und,getObj,setObj,Sem.run,hm,hk.chk,hf,World.putObj]
 | some i =>
  rw [hi] at hf;rw [List.findIdx?_eq_some_iff_getElem] at hi;obtain ⟨hl,h1,_⟩:=hi;have h1':es[i].1=k:=by simpa using h1
  simp only [Option.bind_some,List.getElem?_eq_getElem hl,Option.map_some] at hf;have e:zd3 k es=es.eraseIdx i:=by
   unfold zd3;clear hm hf
   induction es generalizing i with
   | nil=>simp at hl
   | cons a es ih =>
    unfold zcg at ho;simp only [List.map_cons,List.nodup_cons] at ho;cases i with
    | zero =>
     simp only [List.getElem_cons_zero] at h1';simp only [List.eraseIdx_cons_zero,List.filter_cons,h1',ne_eq,not_true,decide_false,Bool.false_eq_true,if_false];rw [List.filter_eq_self];intro b hb;have:b.1≠a.1:=fun e=>ho.1 (by rw [← e];exact List.mem_map_of_mem hb)
     rw [h1'] at this;simpa using this
    | succ i =>
     simp only [List.eraseIdx_cons_succ,List.filter_cons];have hne:a.1≠k:=fun e=>ho.1 (by
      rw [e,← h1'];simp only [List.getElem_cons_succ];exact List.mem_map_of_mem (List.getElem_mem _))
     simp only [ne_eq,hne,not_false_iff,decide_true,if_true];rw [ih ho.2 i (by simpa using hl) (by simpa using h1) (by rename_i hh;intro j hj;have:=hh (j+1) (by omega);simpa using this) (by simpa using h1')]
  have e2:((es.map (zar ke ve)).toArray.eraseIdxIfInBounds i)=((zd3 k es).map (zar ke ve)).toArray:=by
   rw [e];rw [← zpd];simp
  simp [Builtin.delete_,run_underlying hk.und,getObj,setObj,Sem.run,hm,hk.chk,hf,World.putObj];rw [← e2];simp
theorem zhx {W:World} {r:Nat} {es:zae K V} {c:Nat} (hm:IsMap ke ve W r es c) :
  (Instr.range tm (.map (some r))).run P W = .ok (.pointer (some ⟨W.heap.size,0,none⟩)) (W.alloc (.mapIter (some r) c #[] c)):=by
 unfold IsMap at hm;simp [Instr.range,run_underlying hk.und,getObj,Sem.run,hm]
omit [DecidableEq K] hk in
theorem zjg {W:World} {r it:Nat} {es:zae K V} {c:Nat} {seen:Array Nat} (hm:IsMap ke ve W r es c) (hi:W.heap[it]? = some (.mapIter (some r) c seen c)) (hb:∀ e∈es,e.2.2 < c) :
  ((∀ e∈es,e.2.2∈seen)∧∀ ty,(Instr.next (.pointer (some ⟨it,0,none⟩)) false ty).run P W = .ok (.tuple #[.bool false]) W) ∨
  ∃ e∈es,e.2.2 ∉ seen∧∃ W',W'.heap=(W.putObj it (.mapIter (some r) c (seen.push e.2.2) c)).heap∧W'.os=W.os∧W'.tape=W.tape∧W'.output=W.output ∧
   ∀ ty,(Instr.next (.pointer (some ⟨it,0,none⟩)) false ty).run P W = .ok (.tuple #[.bool true,ke e.1,ve e.2.1]) W':=by
 unfold IsMap at hm;have hns:(!seen.isEmpty && !(es.map (zar ke ve)).toArray.isEmpty && (es.map (zar ke ve)).toArray.all (·.born ≥ c))=false:=by
  cases es with
  | nil=>simp
  | cons e es =>
   have:=hb e (by simp);simp [zar];intro _ h;omega
 let left:=(es.map (zar ke ve)).toArray.filter fun e=>!seen.contains e.born
 have hleft:∀ x∈left,∃ e∈es,e.2.2 ∉ seen∧x=zar ke ve e:=by
  intro x hx;simp only [left,Array.mem_filter,List.mem_toArray,List.mem_map] at hx;obtain ⟨⟨e,he,rfl⟩,h2⟩:=hx;exact ⟨e,he,by simpa [zar] using h2,rfl⟩
 have hold:left.filter (·.born < c)=left:=by
  rw [Array.filter_eq_self];intro x hx;obtain ⟨e,he,_,rfl⟩:=hleft x hx;exact decide_eq_true (hb e he)
 have hnew:left.filter (·.born ≥ c) = #[]:=by
  rw [Array.filter_eq_empty_iff];intro x hx;obtain ⟨e,he,_,rfl⟩:=hleft x hx;have:=hb e he;simp [zar];omega
 by_cases h0:left = #[]
 ·refine .inl ⟨fun e he=>?_,?_⟩
  ·by_cases hs:e.2.2∈seen
   ·exact hs
   ·exfalso
    have:zar ke ve e∈left:=by
     simp only [left,Array.mem_filter,List.mem_toArray];exact ⟨List.mem_map_of_mem he,by simpa [zar] using hs⟩
    rw [h0] at this;simp at this
  ·intro ty
   simp only [left] at h0 hold hnew;simp only [Instr.next,Sem.run_bind,getObj,Sem.run,hi,hm,Result.andThen_ok];simp only [hns,Bool.false_eq_true,if_false,Sem.run_bind,h0];simp [choose,Sem.run,Question.forced]
 ·right
  have hne:left.isEmpty=false:=by simpa using h0
  let cand:=(if left.isEmpty then #[none] else #[]) ++ (left ++ (#[]:Array MapEntry)).map some
  have hcand:cand=left.map some:=by simp [cand,hne]
  have hsz:0 < left.size:=by
   rcases Nat.eq_zero_or_pos left.size with h | h
   ·exact absurd (Array.size_eq_zero_iff.1 h) h0
   ·exact h
  have pick:∀ j,j < left.size→∃ e∈es,e.2.2 ∉ seen∧(left.map some)[j]? = some (some (zar ke ve e)):=by
   intro j hj;obtain ⟨e,he,hs,hx⟩:=hleft left[j] (Array.getElem_mem hj);exact ⟨e,he,hs,by simp [hj,hx]⟩
  have run:∀ (j:Nat) (W2:World) (e:K × V × Nat),(choose (.mapNext left.size)).run P W = .ok j W2→W2.heap=W.heap→W2.os=W.os→W2.tape=W.tape→W2.output=W.output→(left.map some)[j]? = some (some (zar ke ve e)) →
    ∃ W',W'.heap=(W.putObj it (.mapIter (some r) c (seen.push e.2.2) c)).heap∧W'.os=W.os∧W'.tape=W.tape∧W'.output=W.output ∧
     ∀ ty,(Instr.next (.pointer (some ⟨it,0,none⟩)) false ty).run P W = .ok (.tuple #[.bool true,ke e.1,ve e.2.1]) W':=by
   intro j W2 e hch hh ho ht hp he;refine ⟨W2.putObj it (.mapIter (some r) c (seen.push e.2.2) c),by simp [World.putObj,hh],ho,ht,hp,fun ty=>?_⟩;have hi2:W2.heap[it]? = some (.mapIter (some r) c seen c):=by rw [hh];exact hi
   simp only [left] at hold hnew hne hch he;simp only [Instr.next,Sem.run_bind,getObj,Sem.run,hi,hm,Result.andThen_ok];simp only [hns,Bool.false_eq_true,if_false,Sem.run_bind,Sem.run_pure,Result.andThen_ok,hold,hnew,hne,Array.append_empty,Array.empty_append,Array.size_map,hch,he];simp [setObj,Sem.run,hi2,World.putObj,zar]
  by_cases h1:left.size≤1
  ·obtain ⟨e,he,hs,hx⟩:=pick 0 hsz
   obtain ⟨W',a1,a2,a3,a4,a5⟩:=run 0 W e (by simp [choose,Sem.run,Question.forced,h1]) rfl rfl rfl rfl hx;exact ⟨e,he,hs,W',a1,a2,a3,a4,a5⟩
  ·obtain ⟨e,he,hs,hx⟩:=pick ((Question.mapNext left.size).cut (W.tape W.drawn (.mapNext left.size))) (by simp [Question.cut];exact Nat.mod_lt _ hsz)
   obtain ⟨W',a1,a2,a3,a4,a5⟩:=run _ { W with drawn:=W.drawn+1 } e (by simp [choose,Sem.run,Question.forced,h1]) rfl rfl rfl rfl hx;exact ⟨e,he,hs,W',a1,a2,a3,a4,a5⟩
omit [DecidableEq K] hk in
theorem zhy {W:World} {r it:Nat} {es:zae K V} {c:Nat} {seen:Array Nat} {e:K × V × Nat} (hm:IsMap ke ve W r es c) (hi:W.heap[it]? = some (.mapIter (some r) c (seen.push e.2.2) c))
  (he:e∈es) (hb:(es.map (·.2.2)).Nodup) :
  (Instr.entry (.pointer (some ⟨it,0,none⟩))).run P W = .ok (.tuple #[ke e.1,ve e.2.1]) W:=by
 unfold IsMap at hm;have hf:(es.map (zar ke ve)).find? (fun x=>x.born == e.2.2)=some (zar ke ve e):=by
  clear hm
  induction es with
  | nil=>simp at he
  | cons a es ih =>
   simp only [List.map_cons,List.find?_cons];simp only [List.map_cons,List.nodup_cons] at hb
   by_cases h:a.2.2=e.2.2
   ·have:a=e:=by
     rcases List.mem_cons.1 he with rfl | h'
     ·rfl
     ·exact absurd (by rw [h];exact List.mem_map_of_mem h') hb.1
    subst this;simp [zar]
   ·have:((zar ke ve a).born == e.2.2)=false:=by simpa [zar] using h
    rw [this];have he':e∈es:=by
     rcases List.mem_cons.1 he with rfl | h'
     ·exact absurd rfl h
     ·exact h'
    exact ih he' hb.2
 simp [Instr.entry,getObj,Sem.run,hi,hm,hf,zar]
omit hk in
def zcd (es:zae K V) (c:Nat):Prop:=(es.map (·.2.2)).Nodup∧∀ e∈es,e.2.2 < c
omit hk in
theorem zcd.upd {es:zae K V} {c:Nat} (h:zcd es c) (k:K) (v:V):zcd (zkp k v c es) (ztk k c es):=by
 unfold zcd zkp ztk at *;cases hf:es.findIdx? fun e=>decide (e.1=k) with
 | none =>
  refine ⟨?_,?_⟩
  ·simp only [List.map_append,List.map_cons,List.map_nil]
   rw [List.nodup_append];refine ⟨h.1,by simp,?_⟩;intro a ha b hb;simp at hb;subst hb;rw [List.mem_map] at ha;obtain ⟨e,he,rfl⟩:=ha;have:=h.2 e he;omega
  ·intro e he
   simp only [List.mem_append,List.mem_singleton] at he
   rcases he with he | rfl
   ·have:=h.2 e he
    simp;omega
   ·simp
 | some i =>
  have hm:(es.modify i fun e=>(k,v,e.2.2)).map (·.2.2)=es.map (·.2.2):=by
   apply List.ext_getElem (by simp);intro j hj1 hj2;simp only [List.getElem_map,List.getElem_modify]
   split<;>rfl
  refine ⟨by simp only [hm];exact h.1,?_⟩;intro e he;have:e.2.2∈(es.modify i fun e=>(k,v,e.2.2)).map (·.2.2):=List.mem_map_of_mem he;rw [hm,List.mem_map] at this;obtain ⟨e',he',e2⟩:=this;have:=h.2 e' he';simp;omega
omit hk in
theorem zcd.del {es:zae K V} {c:Nat} (h:zcd es c) (k:K):zcd (zd3 k es) c:=by
 unfold zcd zd3 at *;exact ⟨List.Nodup.sublist (List.Sublist.map _ List.filter_sublist) h.1,fun e he=>h.2 e (List.mem_filter.1 he).1⟩
omit hk in
def MapIs (ke:K→Value) (ve:V→Value) (W:World) (r:Nat) (F:K→Option V):Prop :=
 ∃ es c,IsMap ke ve W r es c∧zcg es∧zcd es c∧∀ k,zc3 es k=F k
omit hk in
theorem MapIs.of_heap {W W':World} {r:Nat} {F:K→Option V} (h:MapIs ke ve W r F) (e:W'.heap[r]? = W.heap[r]?):MapIs ke ve W' r F:=by
 obtain ⟨es,c,h1,h2⟩:=h;exact ⟨es,c,e.trans h1,h2⟩
omit hk in
theorem MapIs.ext {W W':World} {r:Nat} {F:K→Option V} (h:MapIs ke ve W r F) (e:Below W.heap.size W W'):MapIs ke ve W' r F:=by
 refine h.of_heap (e.block r ?_);obtain ⟨es,c,h1,_⟩:=h;exact (Array.getElem?_eq_some_iff.1 h1).1
omit hk in
theorem MapIs.lt {W:World} {r:Nat} {F:K→Option V} (h:MapIs ke ve W r F):r < W.heap.size:=by
 obtain ⟨es,c,h1,_⟩:=h;exact (Array.getElem?_eq_some_iff.1 h1).1
omit hk in
theorem z6o (W:World):MapIs ke ve (W.alloc (.map #[] 0)) W.heap.size (fun _:K=>(none:Option V)) :=
 ⟨[],0,World.alloc_heap_new W _,z80,⟨List.Pairwise.nil,fun _ h=>by cases h⟩,fun _=>rfl⟩
theorem MapIs.upd {W:World} {r:Nat} {F:K→Option V} (h:MapIs ke ve W r F) (k:K) (v:V) :
  ∃ W',(Instr.mapUpdate tm (.map (some r)) (ke k) (ve v)).run P W = .ok () W'∧W.grownBy W' (some r)∧W'.heap.size=W.heap.size∧MapIs ke ve W' r (fun k'=>if k'=k then some v else F k'):=by
 have hl:=h.lt;obtain ⟨es,c,h1,h2,h3,h4⟩:=h;refine ⟨_,ztm hk h1 k v,?_,by simp,?_⟩
 ·exact ⟨rfl,rfl,rfl,by simp,fun j hj hne=>World.putObj_heap_other (fun e=>hne (by rw [e]))⟩
 ·exact ⟨_,_,World.putObj_heap_same hl,h2.upd k v c,h3.upd k v,fun k'=>by rw [z8y,h4]⟩
theorem MapIs.look_ok {W:World} {r:Nat} {F:K→Option V} (h:MapIs ke ve W r F) (k:K) {v:V} (hg:F k=some v) :
  (Instr.lookup tm (.map (some r)) (ke k) true).run P W = .ok (.tuple #[ve v,.bool true]) W:=by
 obtain ⟨es,c,h1,h2,h3,h4⟩:=h;exact zyd hk h1 k ((h4 k).trans hg)
theorem MapIs.look_none {W:World} {r:Nat} {F:K→Option V} (h:MapIs ke ve W r F) (k:K) (hg:F k=none) {z:Value} (hz:∀ w,(zeroValue tv).run P w = .ok z w) :
  (Instr.lookup tm (.map (some r)) (ke k) true).run P W = .ok (.tuple #[z,.bool false]) W:=by
 obtain ⟨es,c,h1,h2,h3,h4⟩:=h;exact ztl hk h1 k ((h4 k).trans hg) hz
theorem MapIs.del {W:World} {r:Nat} {es:zae K V} {c:Nat} (h1:IsMap ke ve W r es c) (h2:zcg es) (h3:zcd es c) (k:K) (ty:TypeId) :
  ∃ W',(Builtin.delete_ #[tm,tk] ty #[.map (some r),ke k]).run P W = .ok (.tuple #[]) W'∧W.grownBy W' (some r)∧W'.heap.size=W.heap.size∧IsMap ke ve W' r (zd3 k es) c∧zcg (zd3 k es)∧zcd (zd3 k es) c:=by
 have hl:r < W.heap.size:=(Array.getElem?_eq_some_iff.1 h1).1;refine ⟨_,z4s hk h1 h2 k ty,?_,by simp,World.putObj_heap_same hl,h2.del k,h3.del k⟩;exact ⟨rfl,rfl,rfl,by simp,fun j hj hne=>World.putObj_heap_other (fun e=>hne (by rw [e]))⟩
omit [DecidableEq K] hk in
theorem zb6 {α β:Type} (f:α→β):∀ (l:List α),(l.map f).Nodup→∀ a∈l,∀ b∈l,f a=f b→a=b
 | [],_,_,ha,_,_,_=>by cases ha
 | x :: l,h,a,ha,b,hb,e=>by
  simp only [List.map_cons,List.nodup_cons] at h
  rcases List.mem_cons.1 ha with rfl | ha'<;>rcases List.mem_cons.1 hb with rfl | hb'
  ·rfl
  ·exact absurd (by rw [e];exact List.mem_map_of_mem hb') h.1
  ·exact absurd (by rw [← e];exact List.mem_map_of_mem ha') h.1
  ·exact zb6 f l h.2 a ha' b hb' e
omit hk in
def za7 (bad:V→Bool) (seen:Array Nat) (e:K × V × Nat):Bool:=!(decide (e.2.2∈seen) && bad e.2.1)
omit hk in
theorem zzq {es:zae K V} {c:Nat} (ho:zcg es) (hb:zcd es c) (bad:V→Bool) (seen:Array Nat) {e:K × V × Nat} (he:e∈es) (hx:bad e.2.1=true) :
  zd3 e.1 (es.filter (za7 bad seen))=es.filter (za7 bad (seen.push e.2.2)):=by
 unfold zd3;rw [List.filter_filter];refine List.filter_congr fun a ha=>?_
 by_cases h:a=e
 ·subst h
  simp [za7,hx]
 ·have h1:a.1≠e.1:=fun h'=>h (zb6 _ es ho a ha e he h')
  have h2:a.2.2≠e.2.2:=fun h'=>h (zb6 _ es hb.1 a ha e he h')
  simp [za7,h1,h2]
omit [DecidableEq K] hk in
theorem zw0 {es:zae K V} {c:Nat} (hb:zcd es c) (bad:V→Bool) (seen:Array Nat) {e:K × V × Nat} (he:e∈es) (hx:bad e.2.1=false) :
  es.filter (za7 bad seen)=es.filter (za7 bad (seen.push e.2.2)):=by
 refine List.filter_congr fun a ha=>?_
 by_cases h:a=e
 ·subst h
  simp [za7,hx]
 ·have h2:a.2.2≠e.2.2:=fun h'=>h (zb6 _ es hb.1 a ha e he h')
  simp [za7,h2]
omit [DecidableEq K] hk in
theorem z6p {es:zae K V} (bad:V→Bool) (seen:Array Nat) (hs:∀ e∈es.filter (za7 bad seen),e.2.2∈seen) :
  es.filter (za7 bad seen)=es.filter fun e=>!(bad e.2.1):=by
 refine List.filter_congr fun a ha=>?_
 by_cases hb:bad a.2.1=true
 ·by_cases h:a.2.2∈seen
  ·simp [za7,h]
  ·have:=hs a (List.mem_filter.2 ⟨ha,by simp [za7,h]⟩)
   exact absurd this h
 ·simp [za7,hb]
def zck (es:zae K V) (it:Nat) (W:World):Nat :=
 match W.heap[it]? with
 | some (.mapIter _ _ seen _)=>(es.filter fun e=>decide (e.2.2 ∉ seen)).length
 | _=>0
omit [DecidableEq K] hk in
theorem zjh {es:zae K V} {seen:Array Nat} {e:K × V × Nat} (he:e∈es) (hs:e.2.2 ∉ seen) :
  (es.filter fun a=>decide (a.2.2 ∉ seen.push e.2.2)).length < (es.filter fun a=>decide (a.2.2 ∉ seen)).length:=by
 have e1:(es.filter fun a=>decide (a.2.2 ∉ seen.push e.2.2))=(es.filter fun a=>decide (a.2.2 ∉ seen)).filter fun a=>decide (a.2.2≠e.2.2):=by
  rw [List.filter_filter];refine List.filter_congr fun a _=>?_
  simp only [Array.mem_push,not_or];rw [Bool.eq_iff_iff];simp;exact and_comm
 rw [e1];refine List.length_filter_lt_length_iff_exists.2 ⟨e,List.mem_filter.2 ⟨he,by simpa using hs⟩,by simp⟩
end
def Marks (B:Nat):List Deferred→World→Prop
 | [],_=>True
 | d :: ds,W=>(∃ D,d.target = .collected D∧B≤D∧W.heap[D]? = some (.deferred (some []))∧∀ d'∈ds,d'.target≠.collected D)∧Marks B ds W
theorem Marks.kept {B:Nat} {S:Nat→Prop} {W W':World} (k:Kept S W W') (hs:∀ D,B≤D→W.heap[D]? = some (.deferred (some []))→S D):∀ {ds:List Deferred},Marks B ds W→Marks B ds W'
 | [],_=>trivial
 | _ :: _,⟨⟨D,h1,h2,h3,h4⟩,h⟩=>⟨⟨D,h1,h2,(k.same D (Array.getElem?_eq_some_iff.1 h3).1 (hs D h2 h3)).trans h3,h4⟩,Marks.kept k hs h⟩
theorem Marks.lt {B:Nat} {W:World}:∀ {ds:List Deferred},Marks B ds W→∀ d∈ds,∀ D,d.target = .collected D→B≤D∧W.heap[D]? = some (.deferred (some []))
 | _ :: _,⟨⟨D,h1,h2,h3,_⟩,h⟩,d,hd,D',e=>by
  rcases List.mem_cons.1 hd with rfl | hd
  ·rw [h1] at e;cases e;exact ⟨h2,h3⟩
  ·exact Marks.lt h d hd D' e
theorem Marks.add {B D:Nat} {W:World} {ds:List Deferred} (h:Marks B ds W) (hB:B≤D) (hD:W.heap[D]? = some (.deferred (some []))) (hn:∀ d∈ds,d.target≠.collected D):Marks B ({ target:=.collected D,args:=#[] } :: ds) W :=
 ⟨⟨D,rfl,hB,hD,hn⟩,h⟩
theorem zpp {F:Fence} {n:Nat} {P:Program} {fn:Func} {tmps:Array Value} {R:Ending→World→Prop} {B:Nat}:∀ (ds:List Deferred) (W:World),Marks B ds W →
  (∀ W',Kept (fun k=>∀ d∈ds,d.target≠.collected k) W W'→LeavesInM F n P fn tmps R [] .returning W')→LeavesInM F n P fn tmps R ds .returning W
 | [],W,_,h=>h W (Kept.refl _ _)
 | d :: ds,W,⟨⟨D,h1,h2,h3,h4⟩,hm⟩,h=>by
  refine ⟨by simp,.inl ⟨D,_,h1,run_takeDeferred h3,?_⟩⟩;have hput:∀ o,Kept (fun k=>k≠D) W (W.putObj D o):=fun o=>(Kept.refl _ W).putObj o (fun _ h=>h rfl)
  refine zpp (B:=B) ds _ ?_ fun W' hk=>h W' ((hput _).mono (fun k _ hk e=>hk d (by simp) (by rw [h1,e])) |>.trans (hk.mono fun k _ hk d' hd'=>hk d' (by simp [hd'])))
  have:∀ {ds:List Deferred} {W:World},(∀ d'∈ds,d'.target≠.collected D)→Marks B ds W→∀ o,Marks B ds (W.putObj D o):=by
   intro ds
   induction ds with
   | nil=>intro W _ _ _;trivial
   | cons d' ds ih =>
    intro W hne hm o;obtain ⟨⟨D',a1,a2,a3,a4⟩,hm⟩:=hm;refine ⟨⟨D',a1,a2,(World.putObj_heap_other fun e=>hne d' (by simp) (by rw [a1,e])).trans a3,a4⟩,ih (fun x hx=>hne x (by simp [hx])) hm o⟩
  exact this h4 hm _
end Go.Proofs.YtnfdiohfojjnlaaGreat
