/-
  Small laws that the walks of all chapters share: calls at worlds that have grown, operations of drawn regions, slices and rows that a call has made.
-/
import Derived.Test.YtdcnbeehckgpcaaGreatBa
import Derived.StillTailTactics
import Derived.Laws.CopyOwn
import Derived.Deep.Cut
set_option maxRecDepth 200000
set_option maxHeartbeats 0
namespace Go.Proofs.YtdcnbeehckgpcaaGreat
open Go.RowKit Go.Shelf
def upd{α:Type}(f:Nat→α)(i:Nat)(v:α):Nat→α:=fun j=>if j=i then v else f j
theorem zahz{α:Type}(f:Nat→α){i j:Nat}(v:α)(h:j≠i):upd f i v j=f j:=by simp[upd,h]
theorem ze1{P:Program}{f:FuncId}{args:Array Value}{W0 W:World}{g:Gr W0}{v:Value}{Q:Ending→World→Prop}(hW:Ext (grow W0 g) W)(h:Calls P f args W fun e w'=>e=.returned v∧Ext W w')
  (k:∀g',Ext (grow W0 g) (grow W0 g')→Q (.returned v) (grow W0 g')):Calls P f args W Q :=
 h.mono fun e w' ⟨he,hb⟩=>by
  have h1:=hW.trans' hb;obtain⟨g',rfl⟩:=z7m (Ext.trans' (zb7 W0 g) h1);subst he;exact k g' h1
theorem zab2{P:Program}{f:FuncId}{args:Array Value}{W0 W:World}{g:Gr W0}{Q:Ending→World→Prop}{R:Ending→World→Prop}(hW:Ext (grow W0 g) W)(h:Calls P f args W R)(hR:∀e w',R e w'→Ext W w')
  (k:∀e g',Ext (grow W0 g) (grow W0 g')→R e (grow W0 g')→Q e (grow W0 g')):Calls P f args W Q :=
 h.mono fun e w' hr=>by
  have h1:=hW.trans' (hR e w' hr);obtain⟨g',rfl⟩:=z7m (Ext.trans' (zb7 W0 g) h1);exact k e g' h1 hr
theorem z7o{cur:Array Value}{o i:Nat}(v:Value)(h:o≠i):(cur.setIfInBounds o v)[i]?=cur[i]?:=by
 rw[waf,if_neg h]
theorem zw7{cur:Array Value}{o:Nat}(v:Value)(h:o<cur.size):(cur.setIfInBounds o v)[o]?=some v:=by
 rw[waf,if_pos rfl,if_pos h]
theorem zal{W:World}{b:Nat}{cur:Array Value}{t:TypeId}(h:W.heap[b]?=some (.cells cur t (0,0)))(o:Nat)(v:Value) :
  (W.setCell ⟨b,o,none⟩ v).heap[b]?=some (.cells (cur.setIfInBounds o v) t (0,0)):=by
 simp[World.setCell,Array.getElem?_modify,h]
theorem zab.isSlice{w:World}{B:Nat}{e:TypeId}{sz:Nat}{v:Value}{rows:List (List Value)}(h:zab w B e sz v rows):∃sa n cap,v=.slice sa n cap:=by
 obtain⟨sa,cap,e,_⟩:=h.form;exact⟨sa,_,cap,e⟩
def zas(n:Int):List Value:=[.int .i64 n]
def Src(w:World)(sz:Nat)(A:Option Addr)(news:List (List Value)):Prop:=(A=none∧news=[])∨∃b off,A=some ⟨b,off,none⟩∧zbd w sz b off news
theorem Src.ext{w w':World}(h:Ext w w'){sz:Nat}{A:Option Addr}{news:List (List Value)}(s:Src w sz A news):Src w' sz A news:=by
 rcases s with s|⟨b,off,e,s⟩
 ·exact .inl s
 ·exact .inr ⟨b,off,e,s.ext h⟩
theorem newRow(w:World)(l:List Value)(T:TypeId):zbd (w.alloc (.cells l.toArray T)) l.length w.heap.size 0 [l] :=
 zw6 fun j hj=>by
  have hg:(w.alloc (.cells l.toArray T)).heap[w.heap.size]?=some (.cells l.toArray T (0,0)):=by
   show(w.heap.push _)[w.heap.size]?=_;rw[wae,if_pos rfl]
  rw[cell_of_row _ _ _ _ _ _ hg];simp[hj]
theorem z3q(w:World)(l:List Value)(T:TypeId)(b n:Nat)(hb:b=w.heap.size)(hn:n=l.length):zbd (w.alloc (.cells l.toArray T)) n b 0 [l]:=by
 subst hb hn;exact newRow w l T
section
variable{w:World}
end
theorem zab.keep{W W':World}{B B':Nat}{e e':TypeId}{sz sz':Nat}{v v':Value}{rows rows':List (List Value)}(hne:e≠e')(h:zab W B e sz v rows)(h':zab W B' e' sz' v' rows')(k:Kept (fun k=>some k≠v'.ownBlock) W W') :
  zab W' B e sz v rows:=by
 refine⟨⟨h.1.1,?_⟩,h.2⟩
 rcases h.1.2 with a|⟨g,cap,cur,hv,hb,hg,hr⟩
 ·exact .inl a
 ·refine .inr ⟨g,cap,cur,hv,hb,?_,hr⟩
  have hl:=(wad.1 hg).1;refine(k.same g hl fun hh=>?_).trans hg
  rcases h'.1.2 with⟨rfl,_⟩|⟨g',cap',cur',rfl,_,hg',_⟩
  ·simp[Value.ownBlock]at hh
  ·simp only[Value.ownBlock,wfp]at hh
   subst hh;rw[hg]at hg';cases hg';exact hne rfl
theorem zgc:El 22 3 1:=El.mk' (bytes:=8) (z:=.int .i64 0) (by kernel_rfl) (by kernel_rfl) rfl (by omega) (by omega)
theorem zab.oneInts{W:World}{B:Nat}{v:Value}{l:List Int}(h:zab W B 3 1 v (l.map zas)):zo W .i64 v l:=h.isRows
section
variable{P:Program}{B:Nat}{strong:Bool}{o:Oper}{ρ:Operand→Value}{W:World}{val:Nat→Value}{s:Sq}
theorem zgi{v:Value}{W':World}(h:(execOp ρ o).run P W=.ok (.value v) W')(he:Eff B strong W W')(hs:s.p (s.us.map val) (match o.dst with|some _=>v|none=>undef) W'):zjd P B strong o ρ W val s:=by
 unfold zjd;rw[h];exact⟨he,hs⟩
theorem ze{v:Value}(h:(execOp ρ o).run P W=.ok (.value v) W)(hs:s.p (s.us.map val) (match o.dst with|some _=>v|none=>undef) W):zjd P B strong o ρ W val s:=zgi h (by unfold Eff;split<;>exact Below.refl _ _) hs
theorem zmg{W':World}(h:(execOp ρ o).run P W=.ok .skip W')(he:Eff B strong W W')(hs:s.p (s.us.map val) undef W'):zjd P B strong o ρ W val s:=by
 unfold zjd;rw[h];exact⟨he,hs⟩
end
theorem zbx {P:Program}{B:Nat}{o:Oper}{ρ:Operand→Value}{W:World}{val:Nat→Value}{s:Sq}(f:FuncId)(xs:Array Operand)(ats:Array TypeId)(h:o.op=.call { callee:=.value (.func f),args:=xs,argTypes:=ats })(args:Array Value)(hf:ρ (.func f)=.func (.func f) #[] #[])(ha:xs.map ρ=args)(hc:∀args W,(callFunc f args).run P W=.ok (.enter f args) W)
  (hs:Calls P f args W fun e W''=>∃v,e=.returned v∧Ext W W''∧s.p (s.us.map val) (match o.dst with|some _=>v|none=>undef) W''):zjd P B false o ρ W val s:=by
 obtain⟨dst,op,type,pos,after,guard⟩:=o;simp only at h;subst h;have e:execOp ρ { dst,op:=.call { callee:=.value (.func f),args:=xs,argTypes:=ats },type,pos,after,guard }=callFunc f (#[]++xs.map ρ ++ #[]):=by
  simp only[execOp,resolve,hf];rfl
 unfold zjd;rw[e];have e2:#[]++xs.map ρ ++ #[]=args:=by rw[ha];simp
 rw[e2,hc];exact hs
def z9n(w:World)(B:Nat)(e:TypeId)(sz:Nat)(v:Value):Prop:=∃g,v=.slice (some ⟨g,0,none⟩) 0 0∧zab w B e sz v []
theorem z9n.ext{w w':World}{B:Nat}{e:TypeId}{sz:Nat}{v:Value}(h:z9n w B e sz v)(k:Ext w w'):z9n w' B e sz v:=by
 obtain⟨g,h1,h2⟩:=h;exact⟨g,h1,h2.ext k⟩
structure z27(cur:Array Value)(n:Nat)(k:IntKind)(f:Nat→Int):Prop where
 size:cur.size=n
 at_:∀j,j<n→cur[j]?=some (.int k (f j))
theorem z27.set{cur:Array Value}{n:Nat}{k:IntKind}{f:Nat→Int}(h:z27 cur n k f)(i:Nat)(v:Int):z27 (cur.setIfInBounds i (.int k v)) n k (upd f i v):=by
 refine⟨by simp[h.size],fun j hj=>?_⟩
 by_cases e:i=j
 ·subst e
  rw[Array.getElem?_setIfInBounds_self_of_lt (by rw[h.size];exact hj)];simp[upd]
 ·rw[Array.getElem?_setIfInBounds_ne e,h.at_ j hj,zahz _ _ (fun h=>e h.symm)]
theorem zab3{w:World}{B g N:Nat}{T:TypeId}{k:IntKind}(h:w.ownsRow B T 1 (.slice (some ⟨g,0,none⟩) N N) N (madeCells #[.int k 0] N).toList):∃cur,w.heap[g]?=some (.cells cur T (0,0))∧z27 cur N k (fun _=>0):=by
 rcases h.2 with⟨e,_⟩|⟨g',cap',cur,e,_,hg',_,_,hcs,ht⟩
 ·cases e
 ·cases e
  refine⟨cur,hg',by omega,fun j hj=>?_⟩;have hl:(madeCells #[Value.int k 0] N).toList.length=N:=by simp[h.1]
  have e1:cur.toList[j]?=(madeCells #[Value.int k 0] N).toList[j]?:=by
   rw[←ht];rw[List.getElem?_take_of_lt (by simpa using hj)]
  rw[←wag,e1];simp[madeCells,hj,Nat.mod_one]
theorem zbd.drop{w:World}{sz b off:Nat}{rows:List (List Value)}(h:zbd w sz b off rows)(k:Nat):zbd w sz b (off+k*sz) (rows.drop k):=fun i hi j hj=>by
 have hi':k+i<rows.length:=by simp at hi;omega
 have e:(rows.drop k)[i]=rows[k+i]:=by simp
 rw[e]at hj;have:=h (k+i) hi' j hj;rw[wef,←wed]at this;rw[this]
 congr 1
 exact(List.getElem_of_eq e (by simpa using hj)).symm
theorem zbd.take{w:World}{sz b off:Nat}{rows:List (List Value)}(h:zbd w sz b off rows)(k:Nat):zbd w sz b off (rows.take k):=fun i hi j hj=>by
 have hi':i<rows.length:=by simp at hi;omega
 have e:(rows.take k)[i]=rows[i]:=by simp
 rw[e]at hj;have:=h i hi' j hj;rw[this]
 congr 1
 exact(List.getElem_of_eq e (by simpa using hj)).symm
theorem zu8{F:Fence}{n:Nat}{P:Program}{w:World}{ops:Array Oper}{rest:List Oper}{o:Oper}{a:Act}{Q:Exit→Act→World→Prop}(hgd:o.guard=none)(s x:Operand){t ty:TypeId}
  (ho:o.op=.call { callee:=.builtin .append,args:=#[s,x],argTypes:=#[t,t] }) (hty:o.type=ty) {v xv v':Value} {w':World} (hs:a.eval s=v) (hx:a.eval x=xv) (hrun:(Builtin.append_ #[t,t] ty #[v,xv]).run P w=.ok v' w')
  (h:wpListIn F n P ops Q rest (a.put o.dst v') w'):wpListIn F n P ops Q (o::rest) a w :=
 wpListIn_plain hgd fun K hK=>by
  unfold Oper.wpIn;refine⟨?_,?_⟩
  ·simp[Oper.about,ho,resolve,Target.leads]
  ·rw[wfg F _ _ (by rw[ho];intro c hc';cases hc')]
   simp[execOp,ho,resolve,invoke,builtin,hs,hx,hty,hrun,Result.andThen];exact hK _ _ h
theorem zfy{w:World}{t e:TypeId}{sz:Nat}(el:El t e sz)(ty:TypeId)(B:Nat){v:Value}{rows:List (List Value)}(hown:zab w B e sz v rows)(b off c:Nat)(news:List (List Value))
  (hr:∀r∈news,r.length=sz) (hs:zbd w sz b off news) (h1:∀r∈news,∀u∈r,u.oneCell'=true) (hn:rows.length+news.length≤1000000) (hB:B≤w.heap.size) :
  ∃v' w',(Builtin.append_ #[t,t] ty #[v,.slice (some ⟨b,off,none⟩) news.length c]).run Tryz.prog w=.ok v' w'∧zab w' B e sz v' (rows++news)∧Kept (fun k=>some k≠v.ownBlock) w w'∧(∀g,v'.ownBlock=some g→v.ownBlock=some g∨w.heap.size≤g):=by
 obtain⟨i,z,hi,hz,hsi,hby,hzs⟩:=el.info;have hfl:∀j u,news.flatten[j]?=some u→w.cell? ((⟨b,off,none⟩:Addr).add j)=some u:=fun j u hj=>by rw[addr_add];exact zj7 hr hs j u hj
 have h1f:∀u∈news.flatten,u.oneCell'=true:=fun u hu=>by obtain⟨r,hr1,hr2⟩:=List.mem_flatten.1 hu;exact h1 r hr1 u hr2
 have hby2:(rows.length+news.length)*i.bytes≤140737488355328:=by have:=wez hn hby;omega
 have hrr:∀r∈rows++news,r.length=sz:=fun r hr'=>by
  rcases wdm.1 hr' with h|h
  ·exact hown.2 r h
  ·exact hr r h
 have hkept:∀{w':World} {x:Option Nat},w.grownBy w' x→(x=none∨x=v.ownBlock)→Kept (fun k=>some k≠v.ownBlock) w w':=fun hg hx =>
  (Kept.refl _ w).grown hg fun k e _ hk=>by
   rcases hx with hx|hx
   ·rw[hx]at e;cases e
   ·rw[hx]at e;exact hk e.symm
 rcases hown.1.2 with⟨rfl,hn0⟩|⟨g,cap,cur,rfl,hb,hg,hnc,hm,hsz,ht⟩
 ·have h0:rows=[]:=wbz hn0
  subst h0;obtain⟨v',w',hrun,ho,hg,_⟩:=run_append_own (P:=Tryz.prog) w w.heap.size t ty e i z sz i.bytes el.und hi hz hsi rfl hzs el.pos (.slice none 0 0) 0 [] (wfw w _ e sz) ⟨b,off,none⟩ news.length c news.flatten (zde hr)
   hfl h1f (by simp[maxLen]at *;omega) (by simpa using hby2) (weq _)
  have ho':zab w' w.heap.size e sz v' ([]++news):=⟨by simpa using ho,hrr⟩
  exact⟨v',w',hrun,ho'.base hB,hkept hg (.inr rfl),fun k hk=>.inr (ho'.1.lt k hk).1⟩
 ·by_cases hroom:rows.length+news.length≤cap
  ·obtain⟨w',hrun,ho,hg2⟩:=run_append_fits (P:=Tryz.prog) w B t ty e i sz el.und hi hsi g rows.length cap rows.flatten hown.1 ⟨b,off,none⟩ news.length c news.flatten (zde hr) hfl h1f hroom
   exact⟨_,w',hrun,⟨by simpa using ho,hrr⟩,hkept hg2 (.inr rfl),fun k hk=>.inl hk⟩
  ·obtain⟨v',w',hrun,ho,hg2⟩:=run_append_arg_grows (P:=Tryz.prog) w t ty e i z sz i.bytes el.und hi hz hsi rfl hzs el.pos ⟨g,0,none⟩ rows.length cap rows.flatten (zde hown.2)
    (fun j u hj=>hown.1.cells rfl j u hj) ⟨b,off,none⟩ news.length c news.flatten (zde hr) hfl (by omega) (by simp[maxLen];omega) hby2
   have ho':zab w' w.heap.size e sz v' (rows++news):=⟨by simpa using ho,hrr⟩
   exact⟨v',w',hrun,ho'.base hB,hkept hg2 (.inl rfl),fun k hk=>.inr (ho'.1.lt k hk).1⟩
theorem zah0{F:Fence}{n:Nat}{w:World}{ops:Array Oper}{rest:List Oper}{o:Oper}{a:Act}{Q:Exit→Act→World→Prop}(hgd:o.guard=none)(s x:Operand){t e:TypeId}{sz:Nat}(el:El t e sz)
  (ho:o.op=.call { callee:=.builtin .append,args:=#[s,x],argTypes:=#[t,t] }) (B:Nat) {v:Value} {rows:List (List Value)} (hs:a.eval s=v) (hown:zab w B e sz v rows)
  (b off c:Nat) (news:List (List Value)) (hx:a.eval x=.slice (some ⟨b,off,none⟩) news.length c) (hr:∀r∈news,r.length=sz) (hc:zbd w sz b off news) (h1:∀r∈news,∀u∈r,u.oneCell'=true)
  (hn:rows.length+news.length≤1000000) (hB:B≤w.heap.size)
  (h:∀v' w',zab w' B e sz v' (rows++news)→Kept (fun k=>some k≠v.ownBlock) w w'→(∀g,v'.ownBlock=some g→v.ownBlock=some g∨w.heap.size≤g)→wpListIn F n Tryz.prog ops Q rest (a.put o.dst v') w'):wpListIn F n Tryz.prog ops Q (o::rest) a w:=by
 obtain⟨v',w',hrun,h2,h3,h4⟩:=zfy el o.type B hown b off c news hr hc h1 hn hB;exact zu8 hgd s x ho rfl hs hx hrun (h v' w' h2 h3 h4)
theorem zaew{w:World}{t e:TypeId}{sz:Nat}(el:El t e sz)(ty:TypeId)(ao:Option Addr)(n cap:Nat){rows:List (List Value)}(hl:n=rows.length)(hrows:∀r∈rows,r.length=sz)(hold:(ao=none∧rows=[]∧cap=0)∨∃b off,ao=some ⟨b,off,none⟩∧zbd w sz b off rows)
  (b off c:Nat) (news:List (List Value)) (hr:∀r∈news,r.length=sz) (hs:zbd w sz b off news) (h1:∀r∈news,∀u∈r,u.oneCell'=true) (hfull:cap<n+news.length) (hn:rows.length+news.length≤1000000) :
  ∃v' w',(Builtin.append_ #[t,t] ty #[.slice ao n cap,.slice (some ⟨b,off,none⟩) news.length c]).run Tryz.prog w=.ok v' w'∧zab w' w.heap.size e sz v' (rows++news)∧Ext w w':=by
 subst hl;obtain⟨i,z,hi,hz,hsi,hby,hzs⟩:=el.info;have hfl:∀j u,news.flatten[j]?=some u→w.cell? ((⟨b,off,none⟩:Addr).add j)=some u:=fun j u hj=>by rw[addr_add];exact zj7 hr hs j u hj
 have h1f:∀u∈news.flatten,u.oneCell'=true:=fun u hu=>by obtain⟨r,hr1,hr2⟩:=List.mem_flatten.1 hu;exact h1 r hr1 u hr2
 have hby2:(rows.length+news.length)*i.bytes≤140737488355328:=by have:=wez hn hby;omega
 have hrr:∀r∈rows++news,r.length=sz:=fun r hr'=>by
  rcases wdm.1 hr' with h|h
  ·exact hrows r h
  ·exact hr r h
 rcases hold with⟨rfl,rfl,rfl⟩|⟨g,o,rfl,hc⟩
 ·obtain⟨v',w',hrun,ho,hg,_⟩:=run_append_own (P:=Tryz.prog) w w.heap.size t ty e i z sz i.bytes el.und hi hz hsi rfl hzs el.pos (.slice none 0 0) 0 [] (wfw w _ e sz) ⟨b,off,none⟩ news.length c news.flatten (zde hr)
   hfl h1f (by simp[maxLen]at *;omega) (by simpa using hby2) (weq _)
  exact⟨v',w',hrun,⟨by simpa using ho,hrr⟩,(Below.refl _ w).grown hg (weq _) fun k hk=>by cases hk⟩
 ·obtain⟨v',w',hrun,ho,hg2⟩:=run_append_arg_grows (P:=Tryz.prog) w t ty e i z sz i.bytes el.und hi hz hsi rfl hzs el.pos ⟨g,o,none⟩ rows.length cap rows.flatten (zde hrows)
   (fun j u hj=>by rw[addr_add];exact zj7 hrows hc j u hj) ⟨b,off,none⟩ news.length c news.flatten (zde hr) hfl (by omega) (by simp[maxLen];omega) hby2
  exact⟨v',w',hrun,⟨by simpa using ho,hrr⟩,(Below.refl _ w).grown hg2 (weq _) fun k hk=>by cases hk⟩
theorem zah1(w:World)(rows:List (List Value))(arr:Array Value)(T:TypeId)(b sz:Nat)(hb:b=w.heap.size)(hr:∀r∈rows,r.length=sz)(ha:arr.toList=rows.flatten):zbd (w.alloc (.cells arr T)) sz b 0 rows:=by
 subst hb;refine zr2 hr fun j u hj=>?_
 have hg:(w.alloc (.cells arr T)).heap[w.heap.size]?=some (.cells arr T (0,0)):=by
  show(w.heap.push _)[w.heap.size]?=_;rw[wae,if_pos rfl]
 rw[cell_of_row _ _ _ _ _ _ hg,wfc,←wag,ha];exact hj
theorem zab.notOwn{w:World}{B:Nat}{e:TypeId}{sz:Nat}{v:Value}{rows:List (List Value)}(h:zab w B e sz v rows):∀g,v.ownBlock=some g→B≤g∧g<w.heap.size:=h.1.lt
theorem zab.keptAt{S:Nat→Prop}{w w':World}{B:Nat}{e:TypeId}{sz:Nat}{v:Value}{rows:List (List Value)}(h:zab w B e sz v rows)(k:Kept S w w')(hs:∀g cur,B≤g→v.ownBlock=some g→w.heap[g]?=some (.cells cur e (0,0))→S g):zab w' B e sz v rows:=by
 refine⟨⟨h.1.1,?_⟩,h.2⟩
 rcases h.1.2 with a|⟨g,cap,cur,hv,hb,hg,hr⟩
 ·exact .inl a
 ·exact .inr ⟨g,cap,cur,hv,hb,(k.same g (wad.1 hg).1 (hs g cur hb (by rw[hv];rfl) hg)).trans hg,hr⟩
def Gath(ty ety:TypeId)(sz bO B:Nat)(rows:List (List Value))(O:Nat→Prop)(W:World):Prop :=
 ∃v,W.heap[bO]?=some (.cells #[v] ty (0,0))∧zab W B ety sz v rows∧∀g,v.ownBlock=some g→¬O g
theorem Gath.kept{ty ety:TypeId}{sz bO B:Nat}{rows:List (List Value)}{O O':Nat→Prop}{A A':World}{S:Nat→Prop}(h:Gath ty ety sz bO B rows O A)(k:Kept S A A')(h1:S bO)(h2:∀g,B≤g→¬O g→S g)(h3:∀g,O' g→O g∨A.heap.size≤g):Gath ty ety sz bO B rows O' A':=by
 obtain⟨v,a,b,c⟩:=h;refine⟨v,(k.same bO (wad.1 a).1 h1).trans a,?_,fun g hg ho=>?_⟩
 ·refine⟨⟨b.1.1,?_⟩,b.2⟩
  rcases b.1.2 with q|⟨g,cap,cur,hv,hb,hg,hr⟩
  ·exact .inl q
  ·refine .inr ⟨g,cap,cur,hv,hb,(k.same g (wad.1 hg).1 (h2 g hb (c g ?_))).trans hg,hr⟩
   subst hv;rfl
 ·rcases h3 g ho with q|q
  ·exact c g hg q
  ·have:=(b.notOwn g hg).2;omega
section
variable{K V:Type}[DecidableEq K]
abbrev za3(K V:Type):=List (K×V×Nat)
def zbi(ke:K→Value)(ve:V→Value)(e:K×V×Nat):MapEntry:={ key:=ke e.1,val:=ve e.2.1,born:=e.2.2 }
def IsMap(ke:K→Value)(ve:V→Value)(W:World)(r:Nat)(es:za3 K V)(clock:Nat):Prop :=
 W.heap[r]?=some (.map (es.map (zbi ke ve)).toArray clock)
def zb4(ve:V→Value)(k:K):za3 K V→Nat→Option (Nat×Value)
 |[],_=>none
 |e::es,i=>if e.1=k then some (i,ve e.2.1)else zb4 ve k es (i+1)
def zd3(es:za3 K V)(k:K):Option V:=(es.find? fun e=>decide (e.1=k)).map (·.2.1)
def zr3(k:K)(v:V)(clock:Nat)(es:za3 K V):za3 K V :=
 match es.findIdx? (fun e=>decide (e.1=k))with
 |some i=>es.modify i fun e=>(k,v,e.2.2)
 |none=>es++[(k,v,clock)]
def zw8(k:K)(clock:Nat)(es:za3 K V):Nat:=if (es.findIdx? (fun e=>decide (e.1=k))).isSome then clock else clock+1
def zgj(k:K)(es:za3 K V):za3 K V:=es.filter fun e=>decide (e.1≠k)
structure Keyed(P:Program)(tm tk tv:TypeId)(ke:K→Value)(ve:V→Value):Prop where
 und:P.underlying tm=some (.map tk tv)
 chk:∀b k w,(Instr.checkKey b 10000 tk (ke k)).run P w=.ok () w
 find:∀k (l:za3 K V) w,(Instr.findKey tk (ke k) (l.map (zbi ke ve))).run P w=.ok (zb4 ve k l 0) w
 stay:∀k,Instr.sameBits 10000 (ke k) (ke k)=true
theorem zjy(ve:V→Value)(k:K):∀(es:za3 K V) (i:Nat),zb4 ve k es i=(es.findIdx? fun e=>decide (e.1=k)).bind fun j=>(es[j]?).map fun e=>(i+j,ve e.2.1)
 |[],_=>rfl
 |e::es,i=>by
  unfold zb4
  by_cases h:e.1=k
  ·simp[h,wcb]
  ·rw[if_neg h,zjy ve k es (i+1)]
   simp only[wcb,h,decide_false,waz,if_false];cases es.findIdx? fun e=>decide (e.1=k)with
   |none=>rfl
   |some j =>
    simp only[wfn,wfj,wcl]
    congr 1
    funext e
    simp;omega
theorem z3r(k:K)(es:za3 K V):es.find? (fun e=>decide (e.1=k))=(es.findIdx? fun e=>decide (e.1=k)).bind (es[·]?):=by
 induction es with
 |nil=>rfl
 |cons e es ih =>
  simp only[wb8,wcb]
  by_cases h:e.1=k
  ·simp[h]
  ·simp only[h,decide_false,waz,if_false]
   rw[ih];cases es.findIdx? fun e=>decide (e.1=k)<;>simp
theorem ziy(ve:V→Value)(k:K)(es:za3 K V):(zb4 ve k es 0).map (·.2)=(zd3 es k).map ve:=by
 rw[zjy,zd3,z3r];cases h:es.findIdx? fun e=>decide (e.1=k)with
 |none=>rfl
 |some j=>simp only[wfj,Option.map_map];rfl
theorem zaey(k k':K)(v:V)(clock:Nat)(es:za3 K V):zd3 (zr3 k v clock es) k'=if k'=k then some v else zd3 es k':=by
 unfold zd3 zr3;cases h:es.findIdx? fun e=>decide (e.1=k)with
 |none =>
  rw[wcc]at h;simp only[List.find?_append]
  by_cases hk:k'=k
  ·subst hk
   rw[wb9.2 (by simpa using h)];simp
  ·simp only[hk,if_false]
   cases hf:es.find? fun e=>decide (e.1=k')with
   |some e=>simp
   |none=>simp[wff hk]
 |some i =>
  rw[wcd]at h;obtain⟨hi,h1,h2⟩:=h;have h1':es[i].1=k:=by simpa using h1
  clear h1;simp only
  induction es generalizing i with
  |nil=>simp at hi
  |cons e es ih =>
   cases i with
   |zero =>
    simp only[wcw]at h1';simp only[List.modify_zero_cons,wb8]
    by_cases hk:k'=k
    ·simp[hk]
    ·have:e.1≠k':=fun e'=>hk (e'.symm.trans h1')
     simp[hk,wff hk,this]
   |succ i =>
    simp only[List.modify_succ_cons,wb8];have h0:=h2 0 (by omega);simp at h0
    by_cases he:e.1=k'
    ·have hk:k'≠k:=fun h=>h0 (he.trans h)
     simp[he,hk]
    ·simp only[he,decide_false]
     exact ih i (by simpa using hi) (fun j hj=>by have:=h2 (j+1) (by omega);simpa using this) (by simpa using h1')
def zdr(es:za3 K V):Prop:=(es.map (·.1)).Nodup
theorem zdr.upd{es:za3 K V}(h:zdr es)(k:K)(v:V)(c:Nat):zdr (zr3 k v c es):=by
 unfold zdr zr3 at *;cases hf:es.findIdx? fun e=>decide (e.1=k)with
 |none =>
  rw[wcc]at hf;simp only[wde,wdg,wdj];rw[wd2];refine⟨h,by simp,?_⟩;intro a ha b hb;simp at hb;subst hb;rw[wdv]at ha;obtain⟨e,he,rfl⟩:=ha;simpa using hf e he
 |some i =>
  rw[wcd]at hf;obtain⟨hi,h1,_⟩:=hf;have h1':es[i].1=k:=by simpa using h1
  have:(es.modify i fun e=>(k,v,e.2.2)).map (·.1)=es.map (·.1):=by
   apply wb0 (by simp);intro j hj1 hj2;simp only[wcx,wcz]
   split
   ·rename_i e;subst e;exact h1'.symm
   ·rfl
  simp only[this];exact h
theorem zdr.del{es:za3 K V}(h:zdr es)(k:K):zdr (zgj k es):=by
 unfold zdr zgj at *;exact wbi (wbj _ wb7) h
omit [DecidableEq K] in
theorem zaez:zdr ([]:za3 K V):=List.Pairwise.nil
variable{P:Program}{tm tk tv:TypeId}{ke:K→Value}{ve:V→Value}(hk:Keyed P tm tk tv ke ve)
include hk
theorem z2d{W:World}{r:Nat}{es:za3 K V}{c:Nat}(hm:IsMap ke ve W r es c)(k:K){v:V}(hg:zd3 es k=some v) :
  (Instr.lookup tm (.map (some r)) (ke k) true).run P W=.ok (.tuple #[ve v,.bool true]) W:=by
 have h1:=ziy ve k es;rw[hg]at h1;obtain⟨p,hp,hp2⟩:=wfm.1 h1;obtain⟨i,u⟩:=p;simp only at hp2;subst hp2;have hf:=hk.find k es W;rw[hp]at hf;unfold IsMap at hm;simp[Instr.lookup,run_underlying hk.und,getObj,Sem.run,hm,hk.chk,hf]
theorem zw9{W:World}{r:Nat}{es:za3 K V}{c:Nat}(hm:IsMap ke ve W r es c)(k:K)(hg:zd3 es k=none){z:Value}(hz:∀w,(zeroValue tv).run P w=.ok z w) :
  (Instr.lookup tm (.map (some r)) (ke k) true).run P W=.ok (.tuple #[z,.bool false]) W:=by
 have h1:=ziy ve k es;rw[hg]at h1;have hp:zb4 ve k es 0=none:=by simpa using h1
 have hf:=hk.find k es W;rw[hp]at hf;unfold IsMap at hm;simp[Instr.lookup,run_underlying hk.und,getObj,Sem.run,hm,hk.chk,hf,hz]
theorem z6z{W:World}{r:Nat}{es:za3 K V}{c:Nat}(hm:IsMap ke ve W r es c)(k:K){v:V}(hg:zd3 es k=some v) :
  (Instr.lookup tm (.map (some r)) (ke k) false).run P W=.ok (ve v) W:=by
 have h1:=ziy ve k es;rw[hg]at h1;obtain⟨p,hp,hp2⟩:=wfm.1 h1;obtain⟨i,u⟩:=p;simp only at hp2;subst hp2;have hf:=hk.find k es W;rw[hp]at hf;unfold IsMap at hm;simp[Instr.lookup,run_underlying hk.und,getObj,Sem.run,hm,hk.chk,hf]
theorem zv2{W:World}{r:Nat}{es:za3 K V}{c:Nat}(hm:IsMap ke ve W r es c)(k:K)(hg:zd3 es k=none){z:Value}(hz:∀w,(zeroValue tv).run P w=.ok z w) :
  (Instr.lookup tm (.map (some r)) (ke k) false).run P W=.ok z W:=by
 have h1:=ziy ve k es;rw[hg]at h1;have hp:zb4 ve k es 0=none:=by simpa using h1
 have hf:=hk.find k es W;rw[hp]at hf;unfold IsMap at hm;simp[Instr.lookup,run_underlying hk.und,getObj,Sem.run,hm,hk.chk,hf,hz]
theorem z9o{W:World}{r:Nat}{es:za3 K V}{c:Nat}(hm:IsMap ke ve W r es c)(k:K)(v:V) :
  (Instr.mapUpdate tm (.map (some r)) (ke k) (ve v)).run P W=.ok () (W.putObj r (.map ((zr3 k v c es).map (zbi ke ve)).toArray (zw8 k c es))):=by
 have hf:=hk.find k es W;rw[zjy]at hf;unfold IsMap at hm;unfold zr3 zw8;cases hi:es.findIdx? fun e=>decide (e.1=k)with
 |none =>
  rw[hi]at hf;simp only[Option.bind_none]at hf;simp[Instr.mapUpdate,run_underlying hk.und,getObj,setObj,Sem.run,hm,hk.chk,hf,World.putObj,zbi]
 |some i =>
  rw[hi]at hf;rw[wcd]at hi;obtain⟨hl,h1,_⟩:=hi;have h1':es[i].1=k:=by simpa using h1
  simp only[wfj,wcn hl,wfn]at hf;have hky:(((es.map (zbi ke ve)).toArray[i]?).map (·.key)).getD (ke k)=ke k:=by
   simp[hl,zbi,h1']
  have e2:((es.map (zbi ke ve)).modify i fun e=>{ e with key:=ke k,val:=ve v })=(es.modify i fun e=>(k,v,e.2.2)).map (zbi ke ve):=by
   apply wb0 (by simp);intro j hj1 hj2;simp only[wcz,wcx]
   split
   ·rename_i e;simp[zbi]
   ·rfl
  have hky':(Option.map ((fun x=>x.key)∘zbi ke ve) es[i]?).getD (ke k)=ke k:=by simpa using hky
  have hst:(Instr.keyThatStays (ke k) (ke k)).run P W=.ok (ke k) W:=by simp[Instr.keyThatStays,hk.stay]
  simp[Instr.mapUpdate,run_underlying hk.und,getObj,setObj,Sem.run,hm,hk.chk,hf,World.putObj];rw[hky',hst];simp[hm,e2]
omit [DecidableEq K] hk in
theorem zrs{α β:Type}(f:α→β):∀(l:List α) (i:Nat),(l.map f).eraseIdx i=(l.eraseIdx i).map f
 |[],_=>rfl
 |_::_,0=>rfl
 |a::l,i+1=>by simp[zrs f l i]
theorem z9p{W:World}{r:Nat}{es:za3 K V}{c:Nat}(hm:IsMap ke ve W r es c)(ho:zdr es)(k:K)(ty:TypeId) :
  (Builtin.delete_ #[tm,tk] ty #[.map (some r),ke k]).run P W=.ok (.tuple #[]) (W.putObj r (.map ((zgj k es).map (zbi ke ve)).toArray c)):=by
 have hf:=hk.find k es W;rw[zjy]at hf;unfold IsMap at hm;cases hi:es.findIdx? fun e=>decide (e.1=k)with
 |none =>
  rw[hi]at hf;simp only[Option.bind_none]at hf;rw[wcc]at hi;have e:zgj k es=es:=by
   unfold zgj;rw[wb4];intro a ha;simpa using hi a ha
  rw[e];simp[Builtin.delete_,run_underlying hk.und,getObj,setObj,Sem.run,hm,hk.chk,hf,World.putObj]
 |some i =>
  rw[hi]at hf;rw[wcd]at hi;obtain⟨hl,h1,_⟩:=hi;have h1':es[i].1=k:=by simpa using h1
  simp only[wfj,wcn hl,wfn]at hf;have e:zgj k es=es.eraseIdx i:=by
   unfold zgj;clear hm hf
   induction es generalizing i with
   |nil=>simp at hl
   |cons a es ih =>
    unfold zdr at ho;simp only[wdg,wd3]at ho;cases i with
    |zero =>
     simp only[wcw]at h1';simp only[List.eraseIdx_cons_zero,wb3,h1',ne_eq,not_true,decide_false,waz,if_false];rw[wb4];intro b hb;have:b.1≠a.1:=fun e=>ho.1 (by rw[←e];exact wdw hb)
     rw[h1']at this;simpa using this
    |succ i =>
     simp only [List.eraseIdx_cons_succ,wb3];have hne:a.1≠k:=fun e=>ho.1 (by
      rw[e,←h1'];simp only[wcv];exact wdw (wcy _))
     simp only[ne_eq,hne,not_false_iff,decide_true,if_true];rw[ih ho.2 i (by simpa using hl) (by simpa using h1) (by rename_i hh;intro j hj;have:=hh (j+1) (by omega);simpa using this) (by simpa using h1')]
  have e2:((es.map (zbi ke ve)).toArray.eraseIdxIfInBounds i)=((zgj k es).map (zbi ke ve)).toArray:=by
   rw[e];rw[←zrs];simp
  simp[Builtin.delete_,run_underlying hk.und,getObj,setObj,Sem.run,hm,hk.chk,hf,World.putObj];rw[←e2];simp
theorem zr4{W:World}{r:Nat}{es:za3 K V}{c:Nat}(hm:IsMap ke ve W r es c) :
  (Instr.range tm (.map (some r))).run P W=.ok (.pointer (some ⟨W.heap.size,0,none⟩)) (W.alloc (.mapIter (some r) c #[] c)):=by
 unfold IsMap at hm;simp[Instr.range,run_underlying hk.und,getObj,Sem.run,hm]
omit [DecidableEq K] hk in
theorem zv3{W:World}{r it:Nat}{es:za3 K V}{c:Nat}{seen:Array Nat}(hm:IsMap ke ve W r es c)(hi:W.heap[it]?=some (.mapIter (some r) c seen c))(hb:∀e∈es,e.2.2<c) :
  ((∀e∈es,e.2.2∈seen)∧∀ty,(Instr.next (.pointer (some ⟨it,0,none⟩)) false ty).run P W=.ok (.tuple #[.bool false]) W) ∨
  ∃e∈es,e.2.2 ∉ seen∧∃W',W'.heap=(W.putObj it (.mapIter (some r) c (seen.push e.2.2) c)).heap∧W'.os=W.os∧W'.tape=W.tape∧W'.output=W.output ∧
   ∀ty,(Instr.next (.pointer (some ⟨it,0,none⟩)) false ty).run P W=.ok (.tuple #[.bool true,ke e.1,ve e.2.1]) W':=by
 unfold IsMap at hm;have hns:(!seen.isEmpty && !(es.map (zbi ke ve)).toArray.isEmpty&&(es.map (zbi ke ve)).toArray.all (·.born≥c))=false:=by
  cases es with
  |nil=>simp
  |cons e es =>
   have:=hb e (by simp);simp[zbi];intro _ h;omega
 let left:=(es.map (zbi ke ve)).toArray.filter fun e=>!seen.contains e.born
 have hleft:∀x∈left,∃e∈es,e.2.2 ∉ seen∧x=zbi ke ve e:=by
  intro x hx;simp only[left,Array.mem_filter,List.mem_toArray,wdv]at hx;obtain⟨⟨e,he,rfl⟩,h2⟩:=hx;exact⟨e,he,by simpa[zbi]using h2,rfl⟩
 have hold:left.filter (·.born<c)=left:=by
  rw[Array.filter_eq_self];intro x hx;obtain⟨e,he,_,rfl⟩:=hleft x hx;exact decide_eq_true (hb e he)
 have hnew:left.filter (·.born≥c)=#[]:=by
  rw[Array.filter_eq_empty_iff];intro x hx;obtain⟨e,he,_,rfl⟩:=hleft x hx;have:=hb e he;simp[zbi];omega
 by_cases h0:left=#[]
 ·refine .inl ⟨fun e he=>?_,?_⟩
  ·by_cases hs:e.2.2∈seen
   ·exact hs
   ·exfalso
    have:zbi ke ve e∈left:=by
     simp only[left,Array.mem_filter,List.mem_toArray];exact⟨wdw he,by simpa[zbi]using hs⟩
    rw[h0]at this;simp at this
  ·intro ty
   simp only[left]at h0 hold hnew;simp only[Instr.next,wfr,getObj,Sem.run,hi,hm,wfq];simp only[hns,waz,if_false,wfr,h0];simp[choose,Sem.run,Question.forced]
 ·right
  have hne:left.isEmpty=false:=by simpa using h0
  let cand:=(if left.isEmpty then #[none]else #[])++(left++(#[]:Array MapEntry)).map some
  have hcand:cand=left.map some:=by simp[cand,hne]
  have hsz:0<left.size:=by
   rcases weo left.size with h|h
   ·exact absurd (Array.size_eq_zero_iff.1 h) h0
   ·exact h
  have pick:∀j,j<left.size→∃e∈es,e.2.2 ∉ seen∧(left.map some)[j]?=some (some (zbi ke ve e)):=by
   intro j hj;obtain⟨e,he,hs,hx⟩:=hleft left[j] (Array.getElem_mem hj);exact⟨e,he,hs,by simp[hj,hx]⟩
  have run:∀(j:Nat) (W2:World) (e:K×V×Nat),(choose (.mapNext left.size)).run P W=.ok j W2→W2.heap=W.heap→W2.os=W.os→W2.tape=W.tape→W2.output=W.output→(left.map some)[j]?=some (some (zbi ke ve e)) →
    ∃W',W'.heap=(W.putObj it (.mapIter (some r) c (seen.push e.2.2) c)).heap∧W'.os=W.os∧W'.tape=W.tape∧W'.output=W.output ∧
     ∀ty,(Instr.next (.pointer (some ⟨it,0,none⟩)) false ty).run P W=.ok (.tuple #[.bool true,ke e.1,ve e.2.1]) W':=by
   intro j W2 e hch hh ho ht hp he;refine⟨W2.putObj it (.mapIter (some r) c (seen.push e.2.2) c),by simp[World.putObj,hh],ho,ht,hp,fun ty=>?_⟩;have hi2:W2.heap[it]?=some (.mapIter (some r) c seen c):=by rw[hh];exact hi
   simp only[left]at hold hnew hne hch he;simp only[Instr.next,wfr,getObj,Sem.run,hi,hm,wfq];simp only[hns,waz,if_false,wfr,wfs,wfq,hold,hnew,hne,Array.append_empty,Array.empty_append,Array.size_map,hch,he];simp[setObj,Sem.run,hi2,World.putObj,zbi]
  by_cases h1:left.size≤1
  ·obtain⟨e,he,hs,hx⟩:=pick 0 hsz
   obtain⟨W',a1,a2,a3,a4,a5⟩:=run 0 W e (by simp[choose,Sem.run,Question.forced,h1]) rfl rfl rfl rfl hx;exact⟨e,he,hs,W',a1,a2,a3,a4,a5⟩
  ·obtain⟨e,he,hs,hx⟩:=pick ((Question.mapNext left.size).cut (W.tape W.drawn (.mapNext left.size))) (by simp[Question.cut];exact wex _ hsz)
   obtain⟨W',a1,a2,a3,a4,a5⟩:=run _ { W with drawn:=W.drawn+1 } e (by simp[choose,Sem.run,Question.forced,h1]) rfl rfl rfl rfl hx;exact⟨e,he,hs,W',a1,a2,a3,a4,a5⟩
omit [DecidableEq K] hk in
theorem zr5{W:World}{r it:Nat}{es:za3 K V}{c:Nat}{seen:Array Nat}{e:K×V×Nat}(hm:IsMap ke ve W r es c)(hi:W.heap[it]?=some (.mapIter (some r) c (seen.push e.2.2) c))
  (he:e∈es) (hb:(es.map (·.2.2)).Nodup) :
  (Instr.entry (.pointer (some ⟨it,0,none⟩))).run P W=.ok (.tuple #[ke e.1,ve e.2.1]) W:=by
 unfold IsMap at hm;have hf:(es.map (zbi ke ve)).find? (fun x=>x.born == e.2.2)=some (zbi ke ve e):=by
  clear hm
  induction es with
  |nil=>simp at he
  |cons a es ih =>
   simp only[wdg,wb8];simp only[wdg,wd3]at hb
   by_cases h:a.2.2=e.2.2
   ·have:a=e:=by
     rcases wdp.1 he with rfl|h'
     ·rfl
     ·exact absurd (by rw[h];exact wdw h') hb.1
    subst this;simp[zbi]
   ·have:((zbi ke ve a).born == e.2.2)=false:=by simpa[zbi]using h
    rw[this];have he':e∈es:=by
     rcases wdp.1 he with rfl|h'
     ·exact absurd rfl h
     ·exact h'
    exact ih he' hb.2
 simp[Instr.entry,getObj,Sem.run,hi,hm,hf,zbi]
omit hk in
def zd8(es:za3 K V)(c:Nat):Prop:=(es.map (·.2.2)).Nodup∧∀e∈es,e.2.2<c
omit hk in
theorem zd8.upd{es:za3 K V}{c:Nat}(h:zd8 es c)(k:K)(v:V):zd8 (zr3 k v c es) (zw8 k c es):=by
 unfold zd8 zr3 zw8 at *;cases hf:es.findIdx? fun e=>decide (e.1=k)with
 |none =>
  refine⟨?_,?_⟩
  ·simp only[wde,wdg,wdj]
   rw[wd2];refine⟨h.1,by simp,?_⟩;intro a ha b hb;simp at hb;subst hb;rw[wdv]at ha;obtain⟨e,he,rfl⟩:=ha;have:=h.2 e he;omega
  ·intro e he
   simp only[wdm,wd0]at he
   rcases he with he|rfl
   ·have:=h.2 e he
    simp;omega
   ·simp
 |some i =>
  have hm:(es.modify i fun e=>(k,v,e.2.2)).map (·.2.2)=es.map (·.2.2):=by
   apply wb0 (by simp);intro j hj1 hj2;simp only[wcx,wcz]
   split<;>rfl
  refine⟨by simp only[hm];exact h.1,?_⟩;intro e he;have:e.2.2∈(es.modify i fun e=>(k,v,e.2.2)).map (·.2.2):=wdw he;rw[hm,wdv]at this;obtain⟨e',he',e2⟩:=this;have:=h.2 e' he';simp;omega
omit hk in
theorem zd8.del{es:za3 K V}{c:Nat}(h:zd8 es c)(k:K):zd8 (zgj k es) c:=by
 unfold zd8 zgj at *;exact⟨wbi (wbj _ wb7) h.1,fun e he=>h.2 e (wds.1 he).1⟩
omit hk in
def zbo(ke:K→Value)(ve:V→Value)(W:World)(r:Nat)(F:K→Option V):Prop :=
 ∃es c,IsMap ke ve W r es c∧zdr es∧zd8 es c∧∀k,zd3 es k=F k
omit hk in
theorem zbo.of_heap{W W':World}{r:Nat}{F:K→Option V}(h:zbo ke ve W r F)(e:W'.heap[r]?=W.heap[r]?):zbo ke ve W' r F:=by
 obtain⟨es,c,h1,h2⟩:=h;exact⟨es,c,e.trans h1,h2⟩
omit hk in
theorem zbo.ext{W W':World}{r:Nat}{F:K→Option V}(h:zbo ke ve W r F)(e:Below W.heap.size W W'):zbo ke ve W' r F:=by
 refine h.of_heap (e.block r ?_);obtain⟨es,c,h1,_⟩:=h;exact(wad.1 h1).1
omit hk in
theorem zbo.lt{W:World}{r:Nat}{F:K→Option V}(h:zbo ke ve W r F):r<W.heap.size:=by
 obtain⟨es,c,h1,_⟩:=h;exact(wad.1 h1).1
omit hk in
theorem zr9(W:World):zbo ke ve (W.alloc (.map #[] 0)) W.heap.size (fun _:K=>(none:Option V)) :=
 ⟨[],0,World.alloc_heap_new W _,zaez,⟨List.Pairwise.nil,fun _ h=>by cases h⟩,fun _=>rfl⟩
theorem zbo.upd{W:World}{r:Nat}{F:K→Option V}(h:zbo ke ve W r F)(k:K)(v:V) :
  ∃W',(Instr.mapUpdate tm (.map (some r)) (ke k) (ve v)).run P W=.ok () W'∧W.grownBy W' (some r)∧W'.heap.size=W.heap.size∧zbo ke ve W' r (fun k'=>if k'=k then some v else F k'):=by
 have hl:=h.lt;obtain⟨es,c,h1,h2,h3,h4⟩:=h;refine⟨_,z9o hk h1 k v,?_,by simp,?_⟩
 ·exact⟨rfl,rfl,rfl,by simp,fun j hj hne=>World.putObj_heap_other (fun e=>hne (by rw[e]))⟩
 ·exact⟨_,_,World.putObj_heap_same hl,h2.upd k v c,h3.upd k v,fun k'=>by rw[zaey,h4]⟩
theorem zbo.look{W:World}{r:Nat}{F:K→Option V}(h:zbo ke ve W r F)(k:K){v:V}(hg:F k=some v) :
  (Instr.lookup tm (.map (some r)) (ke k) false).run P W=.ok (ve v) W:=by
 obtain⟨es,c,h1,h2,h3,h4⟩:=h;exact z6z hk h1 k ((h4 k).trans hg)
theorem zbo.look_ok{W:World}{r:Nat}{F:K→Option V}(h:zbo ke ve W r F)(k:K){v:V}(hg:F k=some v) :
  (Instr.lookup tm (.map (some r)) (ke k) true).run P W=.ok (.tuple #[ve v,.bool true]) W:=by
 obtain⟨es,c,h1,h2,h3,h4⟩:=h;exact z2d hk h1 k ((h4 k).trans hg)
theorem zbo.look_none{W:World}{r:Nat}{F:K→Option V}(h:zbo ke ve W r F)(k:K)(hg:F k=none){z:Value}(hz:∀w,(zeroValue tv).run P w=.ok z w) :
  (Instr.lookup tm (.map (some r)) (ke k) true).run P W=.ok (.tuple #[z,.bool false]) W:=by
 obtain⟨es,c,h1,h2,h3,h4⟩:=h;exact zw9 hk h1 k ((h4 k).trans hg) hz
theorem zbo.del{W:World}{r:Nat}{es:za3 K V}{c:Nat}(h1:IsMap ke ve W r es c)(h2:zdr es)(h3:zd8 es c)(k:K)(ty:TypeId) :
  ∃W',(Builtin.delete_ #[tm,tk] ty #[.map (some r),ke k]).run P W=.ok (.tuple #[]) W'∧W.grownBy W' (some r)∧W'.heap.size=W.heap.size∧IsMap ke ve W' r (zgj k es) c∧zdr (zgj k es)∧zd8 (zgj k es) c:=by
 have hl:r<W.heap.size:=(wad.1 h1).1;refine⟨_,z9p hk h1 h2 k ty,?_,by simp,World.putObj_heap_same hl,h2.del k,h3.del k⟩;exact⟨rfl,rfl,rfl,by simp,fun j hj hne=>World.putObj_heap_other (fun e=>hne (by rw[e]))⟩
omit [DecidableEq K] hk in
theorem zj8{α β:Type}(f:α→β):∀(l:List α),(l.map f).Nodup→∀a∈l,∀b∈l,f a=f b→a=b
 |[],_,_,ha,_,_,_=>by cases ha
 |x::l,h,a,ha,b,hb,e=>by
  simp only[wdg,wd3]at h
  rcases wdp.1 ha with rfl|ha'<;>rcases wdp.1 hb with rfl|hb'
  ·rfl
  ·exact absurd (by rw[e];exact wdw hb') h.1
  ·exact absurd (by rw[←e];exact wdw ha') h.1
  ·exact zj8 f l h.2 a ha' b hb' e
def zh1(es:za3 K V)(it:Nat)(W:World):Nat :=
 match W.heap[it]? with
 |some (.mapIter _ _ seen _)=>(es.filter fun e=>decide (e.2.2 ∉ seen)).length
 |_=>0
omit [DecidableEq K] hk in
theorem zv4{es:za3 K V}{seen:Array Nat}{e:K×V×Nat}(he:e∈es)(hs:e.2.2 ∉ seen) :
  (es.filter fun a=>decide (a.2.2 ∉ seen.push e.2.2)).length<(es.filter fun a=>decide (a.2.2 ∉ seen)).length:=by
 have e1:(es.filter fun a=>decide (a.2.2 ∉ seen.push e.2.2))=(es.filter fun a=>decide (a.2.2 ∉ seen)).filter fun a=>decide (a.2.2≠e.2.2):=by
  rw[wb5];refine wb2 fun a _=>?_
  simp only[Array.mem_push,not_or];rw[way];simp;exact and_comm
 rw[e1];refine List.length_filter_lt_length_iff_exists.2 ⟨e,wds.2 ⟨he,by simpa using hs⟩,by simp⟩
end
open Go.RowKit
section
variable{P:Program}{F:Fence}{n:Nat}{b:Frame}{a:Act}{k:List Item}{cs:List Frame}{w:World}{Q:Exit→Act→World→Prop}
end
def Marks(B:Nat):List Deferred→World→Prop
 |[],_=>True
 |d::ds,W=>(∃D,d.target=.collected D∧B≤D∧W.heap[D]?=some (.deferred (some []))∧∀d'∈ds,d'.target≠.collected D)∧Marks B ds W
theorem Marks.kept{B:Nat}{S:Nat→Prop}{W W':World}(k:Kept S W W')(hs:∀D,B≤D→W.heap[D]?=some (.deferred (some []))→S D):∀{ds:List Deferred},Marks B ds W→Marks B ds W'
 |[],_=>trivial
 |_::_,⟨⟨D,h1,h2,h3,h4⟩,h⟩=>⟨⟨D,h1,h2,(k.same D (wad.1 h3).1 (hs D h2 h3)).trans h3,h4⟩,Marks.kept k hs h⟩
theorem Marks.lt{B:Nat}{W:World}:∀{ds:List Deferred},Marks B ds W→∀d∈ds,∀D,d.target=.collected D→B≤D∧W.heap[D]?=some (.deferred (some []))
 |_::_,⟨⟨D,h1,h2,h3,_⟩,h⟩,d,hd,D',e=>by
  rcases wdp.1 hd with rfl|hd
  ·rw[h1]at e;cases e;exact⟨h2,h3⟩
  ·exact Marks.lt h d hd D' e
theorem Marks.add{B D:Nat}{W:World}{ds:List Deferred}(h:Marks B ds W)(hB:B≤D)(hD:W.heap[D]?=some (.deferred (some [])))(hn:∀d∈ds,d.target≠.collected D):Marks B ({ target:=.collected D,args:=#[] }::ds) W :=
 ⟨⟨D,rfl,hB,hD,hn⟩,h⟩
theorem ze8{F:Fence}{n:Nat}{P:Program}{fn:Func}{tmps:Array Value}{R:Ending→World→Prop}{B:Nat}:∀(ds:List Deferred) (W:World),Marks B ds W →
  (∀W',Kept (fun k=>∀d∈ds,d.target≠.collected k) W W'→LeavesInM F n P fn tmps R [] .returning W')→LeavesInM F n P fn tmps R ds .returning W
 |[],W,_,h=>h W (Kept.refl _ _)
 |d::ds,W,⟨⟨D,h1,h2,h3,h4⟩,hm⟩,h=>by
  refine⟨by simp,.inl ⟨D,_,h1,run_takeDeferred h3,?_⟩⟩;have hput:∀o,Kept (fun k=>k≠D) W (W.putObj D o):=fun o=>(Kept.refl _ W).putObj o (fun _ h=>h rfl)
  refine ze8 (B:=B) ds _ ?_ fun W' hk=>h W' ((hput _).mono (fun k _ hk e=>hk d (by simp) (by rw[h1,e])) |>.trans (hk.mono fun k _ hk d' hd'=>hk d' (by simp[hd'])))
  have:∀{ds:List Deferred} {W:World},(∀d'∈ds,d'.target≠.collected D)→Marks B ds W→∀o,Marks B ds (W.putObj D o):=by
   intro ds
   induction ds with
   |nil=>intro W _ _ _;trivial
   |cons d' ds ih =>
    intro W hne hm o;obtain⟨⟨D',a1,a2,a3,a4⟩,hm⟩:=hm;refine⟨⟨D',a1,a2,(World.putObj_heap_other fun e=>hne d' (by simp) (by rw[a1,e])).trans a3,a4⟩,ih (fun x hx=>hne x (by simp[hx])) hm o⟩
  exact this h4 hm _
end Go.Proofs.YtdcnbeehckgpcaaGreat
