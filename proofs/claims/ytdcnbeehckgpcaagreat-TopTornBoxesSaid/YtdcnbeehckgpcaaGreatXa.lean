/-
  Plain: the boxes into which a card of races is cut, by tickets: what a box yields says of each ticket whether it has all of it or nothing.
-/
import Derived.Test.YtdcnbeehckgpcaaGreatTa
import Derived.Test.YtdcnbeehckgpcaaGreatPa
set_option maxRecDepth 200000
set_option maxHeartbeats 0
namespace Go.Proofs.YtdcnbeehckgpcaaGreat
open Go.Lib (hid)
def zd9(ts:List (List Nat))(race:Nat)(al:List Bool)(i:Nat):List Bool :=
 (List.range ts.length).map fun j=>al.getD j false&&(((ts.getD j []).getD race 0).testBit i)
def ownB(left n i:Nat)(cls:Nat→List Bool):Nat→Nat
 |0=>0
 |m+1=>let k:=n-(m+1);let o:=ownB left n i cls m
      if i≤k∧left.testBit k=true∧cls k=cls i then 2^k ||| o else o
theorem zt6(left n i:Nat)(cls:Nat→List Bool):∀{m:Nat},m≤n→∀k,(ownB left n i cls m).testBit k=decide (n-m≤k∧k<n∧i≤k∧left.testBit k=true∧cls k=cls i)
 |0,_,k=>by
  simp only[ownB,Nat.zero_testBit]
  symm
  rw[decide_eq_false_iff_not];omega
 |m+1,h,k=>by
  have ih:=zt6 left n i cls (m:=m) (by omega) k;simp only[ownB]
  by_cases hc:i≤n-(m+1)∧left.testBit (n-(m+1))=true∧cls (n-(m+1))=cls i
  ·rw[if_pos hc,Nat.testBit_or,wfa,ih,way,wa6,decide_eq_true_eq,decide_eq_true_eq,decide_eq_true_eq]
   constructor
   ·rintro(rfl|⟨a,b,c⟩)
    ·exact⟨by omega,by omega,hc⟩
    ·exact⟨by omega,b,c⟩
   ·rintro⟨a,b,c⟩
    by_cases e:n-(m+1)=k
    ·exact .inl e
    ·exact .inr ⟨by omega,b,c⟩
  ·rw[if_neg hc,ih,decide_eq_decide]
   constructor
   ·rintro⟨a,b,c⟩
    exact⟨by omega,b,c⟩
   ·rintro⟨a,b,c⟩
    refine⟨?_,b,c⟩
    rcases weu k (n-m)with h1|h1
    ·have:k=n-(m+1):=by omega
     subst this;exact absurd c hc
    ·exact h1
def ze2(left own:Nat):Nat:=left ^^^ (left&&&own)
theorem z4e(left own k:Nat):(ze2 left own).testBit k=(left.testBit k && !own.testBit k):=by
 unfold ze2;rw[Nat.testBit_xor,we8];cases left.testBit k<;>cases own.testBit k<;>rfl
abbrev Lf:=List Nat×List Bool
def zdp(g:List Nat→List Bool→List Lf)(cls:Nat→List Bool)(sets:List Nat)(race n:Nat):Nat→Nat→List Lf
 |0,_=>[]
 |m+1,left =>
  let i:=n-(m+1)
  if left.testBit i=true then
   let own:=ownB left n i cls n
   g (sets.set race own) (cls i)++zdp g cls sets race n m (ze2 left own)
  else zdp g cls sets race n m left
def zdt(rs:List Nat)(ts:List (List Nat)):Nat→List Nat→List Bool→List Lf
 |0,sets,al=>[(sets,al)]
 |f+1,sets,al =>
  if al.all (fun b=>!b)=true then [(sets,al)]
  else
   let race:=rs.length-(f+1)
   zdp (zdt rs ts f) (zd9 ts race al) sets race (rs.getD race 0) (rs.getD race 0) (sets.getD race 0)
def zdc(rs:List Nat):List Nat:=rs.map fun n=>2^n-1
def zck(rs:List Nat)(ts:List (List Nat)):List Lf:=zdt rs ts rs.length (zdc rs) (List.replicate ts.length true)
def sub(a b:Nat):Prop:=∀k,a.testBit k=true→b.testBit k=true
theorem zlq(ts:List (List Nat))(race:Nat)(al:List Bool)(i:Nat):(zd9 ts race al i).length=ts.length:=by simp[zd9]
theorem z8c{ts:List (List Nat)}{race:Nat}{al:List Bool}{i j:Nat}(hj:j<ts.length):(zd9 ts race al i).getD j false=(al.getD j false&&(((ts.getD j []).getD race 0).testBit i)):=by
 unfold zd9;rw[wch,wcq,wcr hj];rfl
theorem zlr(l:List Nat)(r i v:Nat)(h:r<l.length):(l.set r v).getD i 0=if i=r then v else l.getD i 0:=by
 rw[wch,List.getElem?_set]
 by_cases e:r=i
 ·subst e;simp[h]
 ·rw[if_neg e,if_neg (fun h=>e h.symm),wch]
theorem zafc{al:List Bool}(h:al.all (fun b=>!b)=true)(j:Nat):al.getD j false=false:=by
 rw[wbk]at h;rw[wch];cases hj:al[j]? with
 |none=>rfl
 |some b =>
  have:=h b (wdy hj);simpa using this
theorem zsl{g:List Nat→List Bool→List Lf}{cls:Nat→List Bool}{sets:List Nat}{race n c:Nat}(hc:c<n):∀{m left:Nat},m≤n→n-m≤c→left.testBit c=true →
  ∃own i,own.testBit c=true∧cls c=cls i∧∀x∈g (sets.set race own) (cls i),x∈zdp g cls sets race n m left
 |0,_,hm,h1,_=>by omega
 |m+1,left,hm,h1,hb=>by
  simp only[zdp]
  by_cases hi:left.testBit (n-(m+1))=true
  ·rw[if_pos hi]
   by_cases e:cls c=cls (n-(m+1))
   ·refine⟨_,n-(m+1),?_,e,fun x hx=>wdm.2 (.inl hx)⟩
    rw[zt6 _ _ _ _ (weq n),decide_eq_true_eq];exact⟨by omega,hc,h1,hb,e⟩
   ·have hne:c≠n-(m+1):=fun h=>e (by rw[h])
    obtain ⟨own,i,h2,h3,h4⟩:=zsl (g:=g) (cls:=cls) (sets:=sets) (race:=race) hc (m:=m) (left:=ze2 left (ownB left n (n - (m+1)) cls n)) (by omega) (by omega) (by
     rw[z4e,hb,zt6 _ _ _ _ (weq n)];simp only[wa7,wa3,decide_eq_false_iff_not];exact fun h=>e h.2.2.2.2)
    exact⟨own,i,h2,h3,fun x hx=>wdm.2 (.inr (h4 x hx))⟩
  ·rw[if_neg hi]
   have hne:c≠n-(m+1):=fun h=>hi (by rw[←h];exact hb)
   exact zsl hc (by omega) (by omega) hb
theorem z4f{rs:List Nat}{ts:List (List Nat)}{c:Nat→Nat}:∀{f:Nat},f≤rs.length→∀{sets:List Nat} {al:List Bool},sets.length=rs.length→al.length=ts.length →
  (∀r,rs.length-f≤r→r<rs.length→c r<rs.getD r 0∧(sets.getD r 0).testBit (c r)=true) →
  ∃x∈zdt rs ts f sets al,(∀r,r<rs.length-f→x.1.getD r 0=sets.getD r 0)∧(∀r,rs.length-f≤r→r<rs.length→(x.1.getD r 0).testBit (c r)=true) ∧
   ∀j,j<ts.length→(x.2.getD j false=true↔al.getD j false=true∧∀r,rs.length-f≤r→r<rs.length→((ts.getD j []).getD r 0).testBit (c r)=true)
 |0,_,sets,al,hl,ha,hc=>⟨(sets,al),by simp[zdt],fun _ _=>rfl,fun r h1 h2=>by omega,fun j hj=>⟨fun h=>⟨h,fun r h1 h2=>by omega⟩,fun h=>h.1⟩⟩
 |f+1,hf,sets,al,hl,ha,hc=>by
  simp only[zdt]
  by_cases hd:al.all (fun b=>!b)=true
  ·rw[if_pos hd]
   refine⟨(sets,al),by simp,fun _ _=>rfl,fun r h1 h2=>(hc r h1 h2).2,fun j hj=>?_⟩;have:=zafc hd j
   constructor
   ·intro h
    rw[show((sets,al):Lf).2=al from rfl,this]at h;cases h
   ·intro h
    rw[this]at h;cases h.1
  ·rw[if_neg hd]
   obtain⟨race,hrace⟩:∃race,race=rs.length-(f+1):=⟨_,rfl⟩
   rw[←hrace]at hc ⊢;have hr:race<rs.length:=by omega
   obtain⟨c1,c2⟩:=hc race (weq _) hr;obtain⟨own,i,h2,h3,h4⟩:=zsl (g:=zdt rs ts f) (cls:=zd9 ts race al) (sets:=sets) (race:=race) c1 (m:=rs.getD race 0) (left:=sets.getD race 0) (weq _) (by omega) c2;have hls:race<sets.length:=by omega
   have e:rs.length-f=race+1:=by omega
   obtain ⟨x,hx,q1,q2,q3⟩:=z4f (rs:=rs) (ts:=ts) (c:=c) (f:=f) (by omega) (sets:=sets.set race own) (al:=zd9 ts race al i) (by rw [List.length_set];exact hl) (zlq _ _ _ _) (fun r a1 a2=>by
    have:=hc r (by omega) a2;rw[zlr _ _ _ _ hls,if_neg (by omega)];exact this)
   rw[e]at q1 q2 q3;refine⟨x,h4 x hx,fun r hlt=>?_,fun r a1 a2=>?_,fun j hj=>?_⟩
   ·rw[q1 r (by omega),zlr _ _ _ _ hls,if_neg (by omega)]
   ·rcases weu race r with a3|a3
    ·exact q2 r (by omega) a2
    ·have:r=race:=by omega
     subst this;rw[q1 r (by omega),zlr _ _ _ _ hls,if_pos rfl];exact h2
   ·rw[q3 j hj,←h3,z8c hj,waw]
    constructor
    ·rintro⟨⟨a1,a2⟩,a3⟩
     refine⟨a1,fun r b1 b2=>?_⟩
     rcases weu race r with b3|b3
     ·exact a3 r (by omega) b2
     ·have:r=race:=by omega
      subst this;exact a2
    ·rintro⟨a1,a2⟩
     exact⟨⟨a1,a2 race (weq _) hr⟩,fun r b1 b2=>a2 r (by omega) b2⟩
theorem zaih{rs:List Nat}{r k:Nat}(hr:r<rs.length)(hk:k<rs.getD r 0):((zdc rs).getD r 0).testBit k=true:=by
 unfold zdc;rw[wch,wcq];rw[wch,wcn hr]at hk;rw[wcn hr];simp only[wfn,wfk]at hk ⊢;rw[wfb];simpa using hk
theorem z97{rs:List Nat}{ts:List (List Nat)}(c:Nat→Nat)(hc:∀r,r<rs.length→c r<rs.getD r 0) :
  ∃x∈zck rs ts,(∀r,r<rs.length→(x.1.getD r 0).testBit (c r)=true)∧∀j,j<ts.length→(x.2.getD j false=true↔∀r,r<rs.length→((ts.getD j []).getD r 0).testBit (c r)=true):=by
 obtain⟨x,hx,_,q2,q3⟩:=z4f (rs:=rs) (ts:=ts) (c:=c) (f:=rs.length) (weq _) (sets:=zdc rs) (al:=List.replicate ts.length true) (by simp[zdc]) (by simp) fun r _ h=>⟨hc r h,zaih h (hc r h)⟩
 refine⟨x,hx,fun r h=>q2 r (by omega) h,fun j hj=>?_⟩;rw[q3 j hj]
 constructor
 ·rintro⟨_,a⟩ r h
  exact a r (by omega) h
 ·intro a
  refine⟨?_,fun r _ h=>a r h⟩;rw[wch,wcs,if_pos hj];rfl
def zdd(us:List Int)(al:List Bool):Nat→Int
 |0=>0
 |m+1=>zdd us al m+if al.getD m false=true then us.getD m 0 else 0
theorem z4g{a b:Nat}:a&&&b=b↔sub b a:=by
 constructor
 ·intro h k hk
  rw[←h,we8,waw]at hk;exact hk.1
 ·intro h
  apply wen;intro k;rw[we8];cases hb:b.testBit k with
  |false=>simp
  |true=>rw[h k hb];rfl
def ze3(s:Nat):Nat→Nat
 |0=>0
 |k+1=>ze3 s k+if s.testBit k=true then 1 else 0
open Go.RowKit
structure Tk where
 s:List Nat
 u:Int
def zt7(x:Value×Tk):List Value:=[x.1,.int .i64 x.2.u]
structure ze4(w:World)(v:Value)(ps:List (Value×Tk)):Prop where
 rows:zao w 2 v (ps.map zt7)
 sets:∀x∈ps,zo w .i64 x.1 (zy x.2.s)
theorem ze4.ext{w w':World}(e:Ext w w'){v:Value}{ps:List (Value×Tk)}(h:ze4 w v ps):ze4 w' v ps:=⟨zao.ext e h.rows,fun x hx=>(h.sets x hx).ext e⟩
theorem ze4.spec{w:World}{v:Value}{ps:List (Value×Tk)}(h:ze4 w v ps) :
  ∃ sa cap,v = .slice sa ps.length cap∧ps.length≤cap∧cap≤9223372036854775807∧(ps=[]∨∃b off,sa=some ⟨b,off,none⟩∧∀i,(h:i<ps.length) →
   w.cell? ⟨b,off+i*2,none⟩=some ps[i].1∧w.cell? ⟨b,off+i*2+1,none⟩=some (.int .i64 ps[i].2.u)):=by
 obtain⟨sa,cap,h1,h2,h3,h4⟩:=h.rows;refine⟨sa,cap,by simpa using h1,by simpa using h2,h3,?_⟩
 rcases h4 with h4|⟨b,off,e,h4⟩
 ·exact .inl (by simpa using h4)
 ·refine .inr ⟨b,off,e,fun i hi=>?_⟩
  have c0:=h4 i (by simpa using hi) 0 (by simp[zt7]);have c1:=h4 i (by simpa using hi) 1 (by simp[zt7]);simp[zt7]at c0 c1;exact⟨c0,c1⟩
def zac(ps:List (Value×Tk)):List Tk:=ps.map (·.2)
def zap(ts:List Tk):List (List Nat):=ts.map (·.s)
def za2(ts:List Tk):List Int:=ts.map (·.u)
structure zfr(rs:List Nat):Prop where
 lo:1≤rs.length
 hi:rs.length≤5
 each:∀r,r<rs.length→1≤rs.getD r 0∧rs.getD r 0≤6
structure zjj(rs:List Nat)(ts:List Tk):Prop where
 hi:ts.length≤10
 len:∀t∈ts,t.s.length=rs.length
 each:∀t∈ts,∀r,r<rs.length→1≤t.s.getD r 0∧t.s.getD r 0≤2^rs.getD r 0-1
 u:∀t∈ts,1≤t.u∧t.u≤1000
structure zc2(w:World)(p:Nat)(rv tv:Value):Prop where
 c0:w.cell? ⟨p,0,none⟩=some rv
 c1:w.cell? ⟨p,1,none⟩=some tv
theorem zc2.ext{w w':World}(h:Ext w w'){p:Nat}{rv tv:Value}(k:zc2 w p rv tv):zc2 w' p rv tv:=⟨zh h k.c0,zh h k.c1⟩
theorem zc2.lt{w:World}{p:Nat}{rv tv:Value}(k:zc2 w p rv tv):p<w.heap.size:=wfu _ _ k.c0
theorem zafd(f s:Nat)(h1:f≤4294967295)(h2:s≤4294967295):bits .or .i64 (f:Int) (s:Int)=((f ||| s:Nat):Int):=by
 have h3:f ||| s<2^32:=Nat.or_lt_two_pow (by omega) (by omega)
 have e:(BitVec.ofInt IntKind.i64.bits (f:Int) ||| BitVec.ofInt IntKind.i64.bits (s:Int)).toNat=f ||| s:=by
  show(BitVec.ofInt 64 (f:Int) ||| BitVec.ofInt 64 (s:Int)).toNat=f ||| s
  rw[BitVec.toNat_or,wat,wat,wau,wau,wew (by omega),wew (by omega)]
 unfold bits;simp only;rw[e,wbh _ (by omega)]
open Go.RowKit Go.Shelf
def mkI(al:List Bool)(j:Nat):Int:=if al.getD j false=true then 1 else 0
def zbp(T:TypeId)(W:World)(g:Nat)(race:Int)(f:Nat→Int):Prop :=
 ∃cur:Array Value,W.heap[g]?=some (.cells cur T (0,0))∧cur.size=11∧cur[0]?=some (.int .i64 race)∧∀j,j<10→cur[1+j]?=some (.int .i64 (f j))
section
variable{T:TypeId}{W:World}{g:Nat}{race:Int}{f:Nat→Int}(h:zbp T W g race f)
include h
theorem zbp.c0:W.cell? ⟨g,0,none⟩=some (.int .i64 race):=by
 obtain⟨cur,h1,_,h2,_⟩:=h;rw[cell_of_row _ _ _ _ _ _ h1];exact h2
theorem zbp.cell(j:Nat)(hj:j<10):W.cell? ⟨g,1+j,none⟩=some (.int .i64 (f j)):=by
 obtain⟨cur,h1,_,_,h2⟩:=h;rw[cell_of_row _ _ _ _ _ _ h1];exact h2 j hj
theorem zbp.free(o:Nat):W.frozen? ⟨g,o,none⟩=false:=by
 obtain⟨cur,h1,_⟩:=h;simp[World.frozen?,h1]
theorem zbp.lt:g<W.heap.size:=by
 obtain⟨cur,h1,_⟩:=h;exact(wad.1 h1).1
theorem zbp.of_heap{W':World}(e:W'.heap[g]?=W.heap[g]?):zbp T W' g race f:=by
 obtain⟨cur,h1,h2⟩:=h;exact⟨cur,e.trans h1,h2⟩
theorem zbp.ext{W':World}(e:Ext W W'):zbp T W' g race f:=h.of_heap (e.block _ h.lt)
theorem zbp.set(i:Nat)(hi:i<10)(x:Int):zbp T (W.setCell ⟨g,1+i,none⟩ (.int .i64 x)) g race (fun j=>if j=i then x else f j):=by
 obtain⟨cur,h1,hn,h0,h2⟩:=h;refine⟨_,zal h1 (1+i) _,by simpa using hn,?_,fun j hj=>?_⟩
 ·rw[waf,if_neg (by omega),h0]
 ·rw[waf]
  by_cases e:j=i
  ·subst e
   rw[if_pos rfl,if_pos (by omega)];simp
  ·rw[if_neg (by omega),h2 j hj]
   simp[e]
theorem zbp.congr{f':Nat→Int}(e:∀j,j<10→f j=f' j):zbp T W g race f':=by
 obtain⟨cur,h1,h2,h3,h4⟩:=h;exact⟨cur,h1,h2,h3,fun j hj=>by rw[h4 j hj,e j hj]⟩
end
def zdk(race:Int)(f:Nat→Int):Array Value:=#[.int .i64 race,.int .i64 (f 0),.int .i64 (f 1),.int .i64 (f 2),.int .i64 (f 3),.int .i64 (f 4),.int .i64 (f 5),.int .i64 (f 6),.int .i64 (f 7),.int .i64 (f 8),.int .i64 (f 9)]
def zaj6(f:Nat→Int):Array Value:=#[.int .i64 (f 0),.int .i64 (f 1),.int .i64 (f 2),.int .i64 (f 3),.int .i64 (f 4),.int .i64 (f 5),.int .i64 (f 6),.int .i64 (f 7),.int .i64 (f 8),.int .i64 (f 9)]
theorem zgq(T:TypeId)(w:World)(race:Int)(f:Nat→Int):zbp T (w.alloc (.cells (zdk race f) T)) w.heap.size race f:=by
 refine⟨_,World.alloc_heap_new w _,rfl,rfl,fun j hj=>?_⟩
 match j,hj with
 |0,_=>rfl
 |1,_=>rfl
 |2,_=>rfl
 |3,_=>rfl
 |4,_=>rfl
 |5,_=>rfl
 |6,_=>rfl
 |7,_=>rfl
 |8,_=>rfl
 |9,_=>rfl
theorem zafe{al bl:List Bool}{n:Nat}(ha:al.length=n)(hb:bl.length=n)(hn:n≤10):(∀j,j<10→mkI al j=mkI bl j)↔al=bl:=by
 constructor
 ·intro h
  apply wb0 (by omega);intro i h1 h2;have:=h i (by omega);unfold mkI at this;rw[wch,wch,wcn h1,wcn h2]at this;simp only[wfk]at this;cases hx:al[i]<;>cases hy:bl[i]<;>rw[hx,hy]at this<;>simp at this ⊢
 ·intro e j _
  rw[e]
theorem z98{al:List Bool}{n:Nat}(ha:al.length=n)(hn:n≤10):(∀j,j<10→mkI al j=0)↔al.all (fun b=>!b)=true:=by
 rw[wbk]
 constructor
 ·intro h b hb
  obtain⟨i,hi,e⟩:=List.mem_iff_getElem.1 hb;have:=h i (by omega);unfold mkI at this;rw[wch,wcn hi]at this;simp only[wfk,e]at this;cases b
  ·rfl
  ·simp at this
 ·intro h j _
  unfold mkI;rw[wch];cases hj:al[j]? with
  |none=>simp
  |some b =>
   have:=h b (wdy hj);simp at this;simp[this]
theorem z99(f s:Nat)(h1:f≤4294967295)(_:s≤4294967295):bits .andNot .i64 (f:Int) (s:Int)=((ze2 f s:Nat):Int):=by
 have h3:ze2 f s<2^32:=by
  unfold ze2;exact Nat.xor_lt_two_pow (by omega) (wes wej (by omega))
 have e:(BitVec.ofInt IntKind.i64.bits (f:Int) &&& ~~~BitVec.ofInt IntKind.i64.bits (s:Int)).toNat=ze2 f s:=by
  show(BitVec.ofInt 64 (f:Int) &&& ~~~BitVec.ofInt 64 (s:Int)).toNat=ze2 f s;rw[wat,wat];apply wen;intro i;rw[z4e,BitVec.testBit_toNat,BitVec.getLsbD_and,BitVec.getLsbD_not,BitVec.getLsbD_ofNat,BitVec.getLsbD_ofNat]
  by_cases hi:i<64
  ·simp[hi]
  ·have hf:f.testBit i=false:=we9 (wet (show f<2^64 by omega) (we3 (by omega) (by omega)))
   simp[hi,hf]
 unfold bits;simp only;rw[e,wbh _ (by omega)]
theorem zaaa(al:List Bool)(j x:Nat)(hx:x≤4294967295):bits .and .i64 (mkI al j) (x:Int)=if al.getD j false=true∧x%2=1 then 1 else 0:=by
 unfold mkI
 by_cases ha:al.getD j false=true
 ·rw[if_pos ha]
  have h:=zj9 1 x (by omega) hx;rw[Nat.one_and_eq_mod_two]at h;have h':bits .and .i64 1 (x:Int)=((x%2:Nat):Int):=h;rw[h']
  by_cases h2:x%2=1
  ·rw[if_pos ⟨ha,h2⟩,h2];rfl
  ·rw[if_neg (fun h=>h2 h.2),show x%2=0 by omega];rfl
 ·rw[if_neg ha]
  have h:=zj9 0 x (by omega) hx;rw[Nat.zero_and]at h;have h':bits .and .i64 0 (x:Int)=0:=h;rw[h',if_neg (fun h=>ha h.1)]
theorem zacu{ts:List (List Nat)}{race:Nat}{al:List Bool}{i j:Nat}(hj:j<ts.length)(hs:(ts.getD j []).getD race 0≤4294967295):bits .and .i64 (mkI al j) ((((ts.getD j []).getD race 0)>>>i:Nat):Int)=mkI (zd9 ts race al i) j:=by
 have hb:((ts.getD j []).getD race 0)>>>i≤4294967295:=by
  rw[we5];exact wer (wel _ _) hs
 rw[zaaa _ _ _ hb];unfold mkI;rw[z8c hj];have hbt:=z0w ((ts.getD j []).getD race 0) i;cases ha:al.getD j false<;>cases hx:((ts.getD j []).getD race 0).testBit i<;>rw[hx]at hbt<;>simp at hbt ⊢<;>omega
theorem zsm(T:TypeId)(hu:∀w,(underlying T).run Tryz.prog w=.ok (.array 10 3) w)(f g:Nat→Int)(n:Nat)(w:World) :
  (Op.equalIn (n+2) T (.agg #[.int .i64 (f 0),.int .i64 (f 1),.int .i64 (f 2),.int .i64 (f 3),.int .i64 (f 4),.int .i64 (f 5),.int .i64 (f 6),.int .i64 (f 7),.int .i64 (f 8),.int .i64 (f 9)]) (.agg #[.int .i64 (g 0),.int .i64 (g 1),.int .i64 (g 2),.int .i64 (g 3),.int .i64 (g 4),.int .i64 (g 5),.int .i64 (g 6),.int .i64 (g 7),.int .i64 (g 8),.int .i64 (g 9)])).run Tryz.prog w =
   .ok (f 0 == g 0&&(f 1 == g 1&&(f 2 == g 2&&(f 3 == g 3&&(f 4 == g 4&&(f 5 == g 5&&(f 6 == g 6&&(f 7 == g 7&&(f 8 == g 8&&f 9 == g 9))))))))) w:=by
 have hi:∀x y:Int,∀w,(Op.equalIn (n+1) 3 (.int .i64 x) (.int .i64 y)).run Tryz.prog w=.ok (x == y) w:=fun x y w=>run_equalIn_int w n 3 .i64 .i64 x y (by kernel_rfl)
 rw[Op.equalIn];simp only[wfr,hu,wfq];have hr:List.range' 0 10=[0,1,2,3,4,5,6,7,8,9]:=rfl
 by_cases e0:f 0=g 0
 ·by_cases e1:f 1=g 1
  ·by_cases e2:f 2=g 2
   ·by_cases e3:f 3=g 3
    ·by_cases e4:f 4=g 4
     ·by_cases e5:f 5=g 5
      ·by_cases e6:f 6=g 6
       ·by_cases e7:f 7=g 7
        ·by_cases e8:f 8=g 8
         ·by_cases e9:f 9=g 9<;>simp[go_sem,hi,e0,e1,e2,e3,e4,e5,e6,e7,e8,e9,hr]
         ·simp[go_sem,hi,e0,e1,e2,e3,e4,e5,e6,e7,e8,hr]
        ·simp[go_sem,hi,e0,e1,e2,e3,e4,e5,e6,e7,hr]
       ·simp[go_sem,hi,e0,e1,e2,e3,e4,e5,e6,hr]
      ·simp[go_sem,hi,e0,e1,e2,e3,e4,e5,hr]
     ·simp[go_sem,hi,e0,e1,e2,e3,e4,hr]
    ·simp[go_sem,hi,e0,e1,e2,e3,hr]
   ·simp[go_sem,hi,e0,e1,e2,hr]
  ·simp[go_sem,hi,e0,e1,hr]
 ·simp[go_sem,hi,e0,hr]
def zqr(f g:Nat→Int):Bool:=f 0 == g 0&&(f 1 == g 1&&(f 2 == g 2&&(f 3 == g 3&&(f 4 == g 4&&(f 5 == g 5&&(f 6 == g 6&&(f 7 == g 7&&(f 8 == g 8&&f 9 == g 9))))))))
theorem z08{f g:Nat→Int}:zqr f g=true↔∀j,j<10→f j=g j:=by
 unfold zqr;simp only[waw,beq_iff_eq]
 constructor
 ·rintro⟨h0,h1,h2,h3,h4,h5,h6,h7,h8,h9⟩ j hj
  match j,hj with
  |0,_=>exact h0
  |1,_=>exact h1
  |2,_=>exact h2
  |3,_=>exact h3
  |4,_=>exact h4
  |5,_=>exact h5
  |6,_=>exact h6
  |7,_=>exact h7
  |8,_=>exact h8
  |9,_=>exact h9
 ·intro h
  exact⟨h 0 (by omega),h 1 (by omega),h 2 (by omega),h 3 (by omega),h 4 (by omega),h 5 (by omega),h 6 (by omega),h 7 (by omega),h 8 (by omega),h 9 (by omega)⟩
theorem zaab{al bl:List Bool}{n:Nat}(ha:al.length=n)(hb:bl.length=n)(hn:n≤10):zqr (mkI al) (mkI bl)=decide (al=bl):=by
 rw[way,z08,zafe ha hb hn,decide_eq_true_eq]
theorem zxp{al:List Bool}{n:Nat}(ha:al.length=n)(hn:n≤10):zqr (mkI al) (fun _=>0)=al.all (fun b=>!b):=by
 rw[way,z08];exact z98 ha hn
def zwc(T:TypeId)(W:World)(g:Nat)(f:Nat→Int):Prop :=
 ∃cur:Array Value,W.heap[g]?=some (.cells cur T (0,0))∧cur.size=10∧∀j,j<10→cur[j]?=some (.int .i64 (f j))
section
variable{T:TypeId}{W:World}{g:Nat}{f:Nat→Int}(h:zwc T W g f)
include h
theorem zwc.cell(j:Nat)(hj:j<10):W.cell? ⟨g,j,none⟩=some (.int .i64 (f j)):=by
 obtain⟨cur,h1,_,h2⟩:=h;rw[cell_of_row _ _ _ _ _ _ h1];exact h2 j hj
theorem zwc.lt:g<W.heap.size:=by
 obtain⟨cur,h1,_⟩:=h;exact(wad.1 h1).1
theorem zwc.ext{W':World}(e:Ext W W'):zwc T W' g f:=by
 obtain⟨cur,h1,h2⟩:=id h;exact⟨cur,(e.block _ h.lt).trans h1,h2⟩
end
theorem zacv(T:TypeId)(w:World)(f:Nat→Int):zwc T (w.alloc (.cells (zaj6 f) T)) w.heap.size f:=by
 refine⟨_,World.alloc_heap_new w _,rfl,fun j hj=>?_⟩
 match j,hj with
 |0,_=>rfl
 |1,_=>rfl
 |2,_=>rfl
 |3,_=>rfl
 |4,_=>rfl
 |5,_=>rfl
 |6,_=>rfl
 |7,_=>rfl
 |8,_=>rfl
 |9,_=>rfl
theorem z65(l:List (Value×Tk))(sa:Option Addr)(cap:Nat)(f:Nat)(cs:Array Value)(p:(Value×Tk)→Bool)(w:World)
  (hl:l.length≤9223372036854775807)
  (hs:l=[]∨∃b off,sa=some ⟨b,off,none⟩∧∀i,(h:i<l.length)→w.cell? ⟨b,off+i*2,none⟩=some (l[i].1)∧w.cell? ⟨b,off+i*2+1,none⟩=some (.int .i64 l[i].2.u))
  (hcall:∀args W,(callFunc f args).run Tryz.prog W=.ok (.enter f args) W)
  (hf:∀x,x∈l→∀W,Ext w W→Calls Tryz.prog f (#[.agg #[x.1,.int .i64 x.2.u]]++cs) W fun e W'=>e=.returned (.bool (p x))∧Ext W W') :
  Calls Tryz.prog 151 #[.slice sa l.length cap,.func (.func f) #[] cs] w fun e w'=>e=.returned (.int .i64 (zp5 p l))∧Ext w w':=by
 have Hf:=hid hf;clear hf
 go_enter Tryz.func151,Tryz.ntmps151
 go_wp2
 go_loopw [8] (fun i W=>∃k:Nat,k≤l.length∧i=.int .i64 k∧(∀x∈l.take k,p x=false)∧Ext w W) (fun i _=>l.length-(intOf i).toNat)
 case atStart=>exact⟨0,wfd _,rfl,by simp,Below.refl _ _⟩
 case round =>
  obtain⟨k,hk,rfl,hno,hb⟩:=hrel;have HN:=hid hno;clear hno
  by_cases hlt:k<l.length
  ·have hs':∃b off,sa=some ⟨b,off,none⟩∧∀i,(h:i<l.length)→w.cell? ⟨b,off+i*2,none⟩=some (l[i].1)∧w.cell? ⟨b,off+i*2+1,none⟩=some (.int .i64 l[i].2.u):=by
    rcases hs with rfl|h
    ·simp at hlt
    ·exact h
   clear hs;obtain⟨b,off,rfl,hc⟩:=hs';have hc1:=hc k hlt;have HC:Hid (∀i,(h:i<l.length)→w.cell? ⟨b,off+i*2,none⟩=some (l[i].1)∧w.cell? ⟨b,off+i*2+1,none⟩=some (.int .i64 l[i].2.u)):=hid hc;clear hc;obtain⟨a0,a1⟩:=hc1;have c0:=zh hb a0;have c1:=zh hb a1;clear a0 a1;go_wp2_with fail;refine(Hf.out l[k] (wcy hlt) _ hb).mono ?_
   rintro e W' ⟨rfl,hb'⟩;cases hp:p l[k]
   ·go_wp2
    go_roundw
    case rel=>exact⟨k+1,by omega,by go_num,zvy hlt HN.out hp,hb.trans' hb'⟩
    case measure=>simp[intOf];omega
   ·go_wp2
    go_ret;exact⟨zg8 (zzc hlt HN.out hp).symm,hb.trans' hb'⟩
  ·go_wp2
   go_ret;exact⟨zg8 (zr0 (zvz hlt HN.out)).symm,hb⟩
theorem zjk(l:List (Value×Tk))(sa:Option Addr)(cap:Nat)(f:Nat)(cs:Array Value)(p:(Value×Tk)→Bool)(w:World)
  (hl:l.length≤9223372036854775807)
  (hs:l=[]∨∃b off,sa=some ⟨b,off,none⟩∧∀i,(h:i<l.length)→w.cell? ⟨b,off+i*2,none⟩=some (l[i].1)∧w.cell? ⟨b,off+i*2+1,none⟩=some (.int .i64 l[i].2.u))
  (hcall:∀args W,(callFunc f args).run Tryz.prog W=.ok (.enter f args) W)
  (hf:∀x,x∈l→∀W,Ext w W→Calls Tryz.prog f (#[.agg #[x.1,.int .i64 x.2.u]]++cs) W fun e W'=>e=.returned (.bool (p x))∧Ext W W') :
  Calls Tryz.prog 85 #[.slice sa l.length cap,.func (.func f) #[] cs] w fun e w'=>e=.returned (.bool (l.any p))∧Ext w w':=by
 have H:=hid (z65 l sa cap f cs p w hl hs hcall hf);clear hf hs hcall
 go_enter Tryz.func85,Tryz.ntmps85
 go_wp2_with fail;refine H.out.mono ?_
 rintro e W' ⟨rfl,hb⟩
 go_wp2
 all_goals
  go_ret;refine⟨zcp ?_,hb⟩;rw[←zvx]
theorem z4h(n lo hi:Int)(a b:Addr)(w:World)(h1:w.cell? a=some (.int .i64 lo))(h2:w.cell? b=some (.int .i64 hi)) :
  Calls Tryz.prog 148 #[.int .i64 n,.pointer (some a),.pointer (some b)] w fun e w'=>e=.returned (.bool (decide (n<lo)||decide (hi<n)))∧Ext w w':=by
 go_enter Tryz.func148,Tryz.ntmps148
 go_wp2
 all_goals
  go_ret;exact⟨zcp (by simp[*]),Below.refl _ _⟩
theorem zj0(lo hi:Int)(v:Value)(l:List Int)(w:World)(hv:zo w .i64 v l) :
  Calls Tryz.prog 83 #[.int .i64 lo,.int .i64 hi,v] w fun e w'=>e=.returned (.bool (l.all (inR lo hi)))∧Ext w w':=by
 obtain⟨sa,cap,rfl,h1,h2,h3⟩:=hv.spec;have H3:=hid h3;clear h3 hv
 go_enter Tryz.func83,Tryz.ntmps83
 go_wp2_with fail;have hE:Ext w ((w.alloc (.cells #[.int .i64 lo] 2)).alloc (.cells #[.int .i64 hi] 2)):=((Below.refl _ _).alloc (weq _) _).alloc (by simp) _;have e1:((w.alloc (.cells #[.int .i64 lo] 2)).alloc (.cells #[.int .i64 hi] 2)).cell? ⟨w.heap.size,0,none⟩=some (.int .i64 lo):=by simp[go_sem]
 have e2:((w.alloc (.cells #[.int .i64 lo] 2)).alloc (.cells #[.int .i64 hi] 2)).cell? ⟨w.heap.size+1,0,none⟩=some (.int .i64 hi):=by simp[go_sem]
 refine (zxd l sa cap 148 #[.pointer (some ⟨w.heap.size,0,none⟩),.pointer (some ⟨w.heap.size+1,0,none⟩)] (fun n=>decide (n<lo)||decide (hi<n)) _ (by omega) (H3.out.imp id fun⟨b,off,e,hc⟩=>⟨b,off,e,fun i hi=>zh hE (hc i hi)⟩)
  (fun args W=>Tryz.call148 args W) (fun x _ W hW=>z4h x lo hi _ _ W (zh hW e1) (zh hW e2))).mono ?_
 rintro e W' ⟨rfl,hb⟩;clear e1 e2
 go_wp2
 all_goals
  go_ret;refine⟨zcp (a:=!l.any fun n=>decide (n<lo)||decide (hi<n)) ?_,hE.trans' hb⟩;exact z7t lo hi l
theorem zxq{lo hi n:Int}(h:lo≤n∧n≤hi):inR lo hi n=true:=z7s.2 h
theorem zt8(p:Int→Bool)(x:Int):[x].all p=p x:=by simp
theorem zacw(rs:List Nat)(ra:Option Addr)(rcap:Nat)(w:World)(hr:zo w .i64 (.slice ra rs.length rcap) (rs.map fun(n:Nat)=>(n:Int)))(V:zfr rs):Calls Tryz.prog 102 #[.agg #[.slice ra rs.length rcap]] w fun e w'=>e=.returned (.int .i64 0)∧Ext w w':=by
 have hlo:=V.lo;have hhi:=V.hi
 go_enter Tryz.func102,Tryz.ntmps102
 go_upto_region 1 with(fail);obtain⟨W0,hW0⟩:∃W0,W0=w.alloc (.cells #[.slice ra rs.length rcap] 29):=⟨_,rfl⟩
 have hE:Ext w W0:=by rw[hW0];exact xx
 have k0:W0.cell? ⟨w.heap.size,0,none⟩=some (.slice ra rs.length rcap):=by rw[hW0];simp[go_sem]
 have hz:w.heap.size<W0.heap.size:=wfu _ _ k0;have HW:=hid hE;have HR:=hid (zo.ext hE hr);rw[←hW0];clear hW0 hr;go_wp2_with fail;refine ze1 (W0:=W0) (g:=⟨W0,Below.refl _ _⟩) xx (zj0 1 5 _ [(rs.length:Int)] _ (zee (by omega) (by omega) (by simp[go_sem]))) fun g1 hgr=>?_
 clear hgr;rw[zt8,zxq (by omega)];go_upto_region 3 with(fail);obtain⟨Z,hZ⟩:∃zz9,zz9=(grow W0 g1):=⟨_,rfl⟩
 have eZ:Ext W0 Z:=by rw[hZ];exact xx
 replace k0:=zh eZ k0;replace HR:=hid (HR.out.ext eZ);replace HW:=hid (HW.out.trans' eZ);rw[←hZ];replace hz:=wfu _ _ k0;clear hZ eZ;simp only at hz;go_wp2_with fail
 go_loopw [14] (fun iv W=>∃i:Nat,i≤rs.length∧iv=.int .i64 i∧Ext Z W) (fun iv _=>rs.length-(intOf iv).toNat)
 case atStart=>exact⟨0,by omega,rfl,Below.refl _ _⟩
 case round =>
  obtain⟨i,hi,rfl,hE2⟩:=hrel;obtain⟨X,rfl⟩:∃X,X=wr:=⟨_,rfl⟩
  have HEX:=hid hE2
  by_cases hlt:i<rs.length
  ·have hii:(i:Int)<(rs.length:Int):=by omega
   obtain⟨rb,ro,rfl,hc⟩:=za7 HR.out hlt;have c0:=hc i hlt X hE2;have zc:=wfu _ _ c0;simp only at zc;obtain⟨x,hx⟩:∃x:Nat,x=rs.getD i 0:=⟨_,rfl⟩
   have hb:=V.each i hlt;rw[←hx]at c0 hb;clear hc hE2 hx;go_wp2_with fail;refine ze1 (W0:=X) (g:=⟨X,Below.refl _ _⟩) xx (zj0 1 6 _ [(x:Int)] _ (zee (by omega) (by omega) (by simp[go_sem]))) fun g1 hgr=>?_
   clear hgr;rw[zt8,zxq (by omega)];go_wp2_with fail;go_roundw
   case rel=>exact⟨i+1,by omega,by go_num,HEX.out.trans' (zb7 X _)⟩
   case measure=>simp[intOf];omega
  ·have hii:¬((i:Int)<(rs.length:Int)):=by omega
   clear hE2;go_wp2_with fail;go_ret;exact⟨rfl,HW.out.trans' HEX.out⟩
theorem z4i(rs:List Nat)(ra:Option Addr)(rcap:Nat)(w:World)(_:zo w .i64 (.slice ra rs.length rcap) (rs.map fun(n:Nat)=>(n:Int)))(tv:Value)(ta:Option Addr)(tn tc:Nat)(ht:tv=.slice ta tn tc) :
  Calls Tryz.prog 56 #[.agg #[.slice ra rs.length rcap],tv] w fun e w'=>∃p,e=.returned (.pointer (some ⟨p,0,none⟩))∧Ext w w'∧w.heap.size≤p∧zc2 w' p (.slice ra rs.length rcap) tv:=by
 subst ht
 go_enter Tryz.func56,Tryz.ntmps56
 go_wp2_with fail;go_ret;exact⟨w.heap.size+1,rfl,by exact xx,by omega,by constructor<;>simp[go_sem]⟩
end Go.Proofs.YtdcnbeehckgpcaaGreat
namespace Go.Proofs.YtdcnbeehckgpcaaGreat
open Go.Lib (hid)
open Go.RowKit Go.Shelf
attribute [local go_sem] Oper.semAt_some
def zeg(a b:List Nat)(k:Nat):Bool:=(List.range k).all fun r=>(a.getD r 0&&&b.getD r 0) == b.getD r 0
theorem zaac(a b:List Nat)(k:Nat):zeg a b (k+1)=(zeg a b k&&((a.getD k 0&&&b.getD k 0) == b.getD k 0)):=by
 unfold zeg;rw[wd6,List.all_append];simp
theorem z09{a b:List Nat}{k:Nat}:zeg a b k=true↔∀r,r<k→sub (b.getD r 0) (a.getD r 0):=by
 unfold zeg;rw[wbk]
 constructor
 ·intro h r hr
  have:=h r (wdz.2 hr);exact z4g.1 (by simpa using this)
 ·intro h r hr
  have:=z4g.2 (h r (wdz.1 hr));simpa using this
theorem zaff(a b:List Nat)(av bv:Value)(w:World)(ha:zo w .i64 av (zy a))(hb:zo w .i64 bv (zy b))(hl:b.length=a.length)(hA:∀r,r<a.length→a.getD r 0≤4294967295)(hB:∀r,r<a.length→b.getD r 0≤4294967295)(h9:a.length≤1000) :
  Calls Tryz.prog 35 #[av,bv] w fun e w'=>e=.returned (.bool (zeg a b a.length))∧Ext w w':=by
 obtain⟨aa,ac,rfl,a1,a2,-⟩:=ha.spec;obtain⟨ba,bc,rfl,b1,b2,-⟩:=hb.spec;rw[zad]at ha a1 ⊢;rw[zad,hl]at hb b1 ⊢;have HA:=hid ha;have HB:=hid hb;have HLA:=hid hA;have HLB:=hid hB;have HL:=hid hl;clear ha hb hA hB hl
 go_enter Tryz.func35,Tryz.ntmps35
 go_wp2_with fail
 go_loopw [8] (fun iv W=>∃i:Nat,i≤a.length∧iv=.int .i64 i∧zeg a b i=true∧Ext w W) (fun iv _=>a.length-(intOf iv).toNat)
 case atStart=>exact⟨0,by omega,rfl,by simp[zeg],Below.refl _ _⟩
 case round =>
  obtain⟨i,hi,rfl,hh,hE⟩:=hrel;obtain⟨X,rfl⟩:∃X,X=wr:=⟨_,rfl⟩
  have HE:=hid hE;have HH:=hid hh
  by_cases hlt:i<a.length
  ·have hii:(i:Int)<(a.length:Int):=by omega
   obtain⟨ab,ao,rfl,hca⟩:=za7 HA.out hlt;obtain⟨bb,bo,rfl,hcb⟩:=za7 HB.out (show i<b.length by rw[HL.out];exact hlt);have c0:=hca i hlt X hE;have c1:=hcb i (by rw[HL.out];exact hlt) X hE;have z0:=wfu _ _ c0;have z1:=wfu _ _ c1;simp only at z0 z1;have hxa:=HLA.out i hlt;have hyb:=HLB.out i hlt;have hsu:=zaac a b i;rw[hh,wa7]at hsu;obtain⟨x,hx⟩:∃x:Nat,x=a.getD i 0:=⟨_,rfl⟩
   obtain⟨y,hy⟩:∃y:Nat,y=b.getD i 0:=⟨_,rfl⟩
   rw[←hx]at c0 hxa hsu;rw[←hy]at c1 hyb hsu;have hbit:=zj9 x y hxa hyb;obtain⟨z,hz⟩:∃z:Nat,z=x&&&y:=⟨_,rfl⟩
   rw[←hz]at hbit hsu;obtain⟨q,hq⟩:∃q,((z:Int) != (y:Int))=q:=⟨_,rfl⟩
   have HSU:Hid (zeg a b (i+1) = !q):=hid (by
    rw[hsu,←hq,way];simp;omega)
   clear hca hcb hE hh hx hy hz hsu hxa hyb;go_upto_region 4 with(fail);refine zb8 (X.heap.size) (weq _)
    [sqV (.slice (some ⟨ab,ao,none⟩) a.length ac),sqV (.int .i64 i),sqV (.pointer (some ⟨ab,ao+i,none⟩)),sqV (.int .i64 x),sqV (.slice (some ⟨bb,bo,none⟩) a.length bc),sqV (.int .i64 i),sqV (.pointer (some ⟨bb,bo+i,none⟩)),sqV (.int .i64 y),sqV (.int .i64 z),sqV (.slice (some ⟨bb,bo,none⟩) a.length bc),sqV (.int .i64 i),sqV (.pointer (some ⟨bb,bo+i,none⟩)),sqV (.int .i64 y),sqV (.bool q)]
    [true,true,true,true,true,true,true,true,true,true,true,true,true,true] [false,false,false,false,false,false,false,false,false,false,false,false,false,false] [true,true,true,true,true,true,true,true,true,true,true,true,true,true] [true,true,true,true,true,true,true,true,true,true,true,true,true,true]
    (by kernel_rfl) (by kernel_rfl) (by decide +kernel) (by decide +kernel) (by decide +kernel) rfl ⟨rfl,rfl⟩ ⟨?s0,?s1,?s2,?s3,?s4,?s5,?s6,?s7,?s8,?s9,?s10,?s11,?s12,?s13,trivial⟩ [some 11,some 12,some 13,some 14,some 15,some 16,some 17,some 18,some 19,some 20,some 21,some 22,some 23,some 24] rfl rfl ?send
   case s0 =>
    intro g h W c f e b d;have o0:h (.tmp 0)=.slice (some ⟨ab,ao,none⟩) a.length ac:=b.old 0 (by decide);exact ze (by simp[execOp,o0,go_sem]) rfl
   case s1 =>
    intro f g W b e d a c;have o0:g (.tmp 5)=.int .i64 i:=a.old 5 (by decide);exact ze (by simp[execOp,o0,go_sem]) rfl
   case s2 =>
    intro g h W c f e b d;have d0:h (.tmp 11)=.slice (some ⟨ab,ao,none⟩) a.length ac:=dpv b e 0 11;have d1:h (.tmp 12)=.int .i64 i:=dpv b e 1 12;exact ze (by simp[execOp,d0,d1,hii,go_sem]) rfl
   case s3 =>
    intro f g W b e d a c;have d2:g (.tmp 13)=.pointer (some ⟨ab,ao+i,none⟩):=dpv a d 2 13;have f_c0:=cell_below b (by simp only;omega) c0;exact ze (by simp[execOp,d2,f_c0,go_sem]) rfl
   case s4 =>
    intro g h W c f e b d;have o0:h (.tmp 1)=.slice (some ⟨bb,bo,none⟩) a.length bc:=b.old 1 (by decide);exact ze (by simp[execOp,o0,go_sem]) rfl
   case s5 =>
    intro f g W b e d a c;have o0:g (.tmp 5)=.int .i64 i:=a.old 5 (by decide);exact ze (by simp[execOp,o0,go_sem]) rfl
   case s6 =>
    intro g h W c f e b d;have d4:h (.tmp 15)=.slice (some ⟨bb,bo,none⟩) a.length bc:=dpv b e 4 15;have d5:h (.tmp 16)=.int .i64 i:=dpv b e 5 16;exact ze (by simp[execOp,d4,d5,hii,go_sem]) rfl
   case s7 =>
    intro f g W b e d a c;have d6:g (.tmp 17)=.pointer (some ⟨bb,bo+i,none⟩):=dpv a d 6 17;have f_c1:=cell_below b (by simp only;omega) c1;exact ze (by simp[execOp,d6,f_c1,go_sem]) rfl
   case s8 =>
    intro f g W b e d a c;have d3:g (.tmp 14)=.int .i64 x:=dpv a d 3 14;have d7:g (.tmp 18)=.int .i64 y:=dpv a d 7 18;exact ze (by simp[execOp,d3,d7,hbit,go_sem]) rfl
   case s9 =>
    intro g h W c f e b d;have o0:h (.tmp 1)=.slice (some ⟨bb,bo,none⟩) a.length bc:=b.old 1 (by decide);exact ze (by simp[execOp,o0,go_sem]) rfl
   case s10 =>
    intro f g W b e d a c;have o0:g (.tmp 5)=.int .i64 i:=a.old 5 (by decide);exact ze (by simp[execOp,o0,go_sem]) rfl
   case s11 =>
    intro g h W c f e b d;have d9:h (.tmp 20)=.slice (some ⟨bb,bo,none⟩) a.length bc:=dpv b e 9 20;have d10:h (.tmp 21)=.int .i64 i:=dpv b e 10 21;exact ze (by simp[execOp,d9,d10,hii,go_sem]) rfl
   case s12 =>
    intro f g W b e d a c;have d11:g (.tmp 22)=.pointer (some ⟨bb,bo+i,none⟩):=dpv a d 11 22;have f_c1:=cell_below b (by simp only;omega) c1;exact ze (by simp[execOp,d11,f_c1,go_sem]) rfl
   case s13 =>
    intro f g W b e d a c;have d8:g (.tmp 19)=.int .i64 z:=dpv a d 8 19;have d12:g (.tmp 23)=.int .i64 y:=dpv a d 12 23;exact ze (by simp[execOp,d8,d12,hq,go_sem]) rfl
   case send =>
    intro val WW hE hzz hv;obtain⟨-,-,-,-,-,-,-,-,-,-,-,-,-,r13,-⟩:=hv;have q13:val 13=.bool q:=r13;simp only[za9,q13];go_frame;have HE2:=hid (HE.out.trans' hE);clear hE hzz q13 r13 c0 c1 z0 z1 hbit hq;cases q
    ·go_wp2_with fail
     go_roundw
     case rel=>exact⟨i+1,by omega,by go_num,by rw[HSU.out];rfl,HE2.out⟩
     case measure=>simp[intOf];omega
    ·have HF:Hid (zeg a b a.length=false):=hid (by
      cases hf:zeg a b a.length with
      |false=>rfl
      |true =>
       have h1:=z09.1 hf;have h2:zeg a b (i+1)=true:=z09.2 fun r hr=>h1 r (by omega)
       rw[HSU.out]at h2;cases h2)
     go_wp2_with fail;go_ret;exact⟨zcp (by rw[HF.out]),HE2.out⟩
  ·have hii:¬((i:Int)<(a.length:Int)):=by omega
   have hie:i=a.length:=by omega
   rw[hie]at hh;have HF:=hid hh;clear hE hh hie HH;go_wp2_with fail;go_ret;exact⟨zcp (by rw[HF.out]),HE.out⟩
theorem zafg(rs:List Nat)(k:Nat)(h:k<rs.length):zdc (rs.take (k+1))=zdc (rs.take k)++[2^rs.getD k 0-1]:=by
 unfold zdc;rw[wea,wcn h,wde,wch,wcn h];rfl
theorem zafh(rs:List Nat)(ra:Option Addr)(rcap p:Nat)(tv:Value)(w:World)(hs:zc2 w p (.slice ra rs.length rcap) tv)(hr:zo w .i64 (.slice ra rs.length rcap) (zy rs))(V:zfr rs) :
  Calls Tryz.prog 91 #[.pointer (some ⟨p,0,none⟩)] w fun e w'=>∃v,e=.returned v∧Ext w w'∧zab w' w.heap.size 3 1 v ((zy (zdc rs)).map zas):=by
 have hz:=hs.lt;have c0:=hs.c0;have HR:=hid hr;have HV:=hid V;have hh5:=V.hi;clear hs hr V
 go_enter Tryz.func91,Tryz.ntmps91
 go_wp2_with fail
 go_loopw [3,12] (fun ov iv W=>∃k:Nat,k≤rs.length∧iv=.int .i64 k∧zab W w.heap.size 3 1 ov ((zy (zdc (rs.take k))).map zas)∧Ext w W) (fun _ iv _=>rs.length-(intOf iv).toNat)
 case atStart=>exact⟨0,by omega,rfl,zab.nil _ _ _ _,Below.refl _ _⟩
 case round =>
  obtain⟨k,hk,rfl,ho,hE⟩:=hrel;obtain⟨X,rfl⟩:∃X,X=wr:=⟨_,rfl⟩
  have HO:=hid ho;have HE:=hid hE;obtain⟨oa,on,oc,rfl⟩:=ho.isSlice
  by_cases hlt:k<rs.length
  ·have hki:(k:Int)<(rs.length:Int):=by omega
   obtain⟨rb,ro,rfl,hc⟩:=za7 HR.out hlt;have cr:=hc k hlt X hE;have zr:=wfu _ _ cr;simp only at zr;have hb:=HV.out.each k hlt;have hat:=zafg rs k hlt;obtain⟨n,hn⟩:∃n:Nat,n=rs.getD k 0:=⟨_,rfl⟩
   rw[←hn]at cr hb hat;obtain⟨h1,h2,h3⟩:=zjf hb.2;obtain⟨N,hN⟩:∃N:Nat,N=2^n:=⟨_,rfl⟩
   rw[←hN]at h1 h2 h3 hat;obtain⟨M,hM⟩:∃M:Nat,N=M+1:=⟨N-1,by omega⟩
   have hsub:IntKind.i64.wrap ((N:Int)-1)=(M:Int):=by rw[show(N:Int)-1=(M:Int) by omega];exact wbh _ (by omega)
   have hmin:min n 64=n:=by omega
   have HAT:Hid ((zy (zdc (rs.take (k+1)))).map zas=(zy (zdc (rs.take k))).map zas ++ [[.int .i64 (M:Int)]]):=hid (by
    rw[hat,show N-1=M by omega];simp[zy,zas])
   have HLEN:Hid (((zy (zdc (rs.take k))).map zas).length + [[Value.int .i64 (M:Int)]].length≤1000000):=hid (by simp[zy,zdc];omega);clear hc hn hN hM hat ho hE hb h2 h3;go_wp2_with (at_builtin;go_loud (refine zahi rfl (.tmp 16) (.tmp 20) zgc rfl w.heap.size rfl (HO.out.ext (by exact xx)) X.heap.size 0 1 [[.int .i64 (M:Int)]] rfl (by simp) (z3q _ [.int .i64 (M:Int)] _ _ _ rfl rfl) (by simp[Value.oneCell']) HLEN.out (by have:=HE.out.size;simp;omega) ?_));intro v' W4 hown4 hb4;obtain⟨va2,vn,vc2,rfl⟩:=hown4.isSlice;have hE4:Ext w W4:=Below.trans (HE.out.trans' (by exact xx:Ext X (X.alloc (.cells #[.int .i64 (M:Int)] 3)))) hb4;have HO4:=hid hown4;have HE4:=hid hE4;clear hown4 hb4 hE4;go_wp2_with fail;go_roundw
   case rel=>exact⟨k+1,by omega,by go_num,by rw[HAT.out];exact HO4.out,HE4.out⟩
   case measure=>simp[intOf];omega
  ·have hki:¬((k:Int)<(rs.length:Int)):=by omega
   have HO3:Hid (zab X w.heap.size 3 1 (.slice oa on oc) ((zy (zdc rs)).map zas)):=hid (by
    have hke:k=rs.length:=by omega
    rw[hke,List.take_length]at ho;exact ho)
   clear ho hE;go_wp2_with fail;refine bodyPost_ret (v:=.slice oa on oc) (by simp[results,Tryz.results91,go_sem]) rfl ?_
   exact⟨_,rfl,HE.out,HO3.out⟩
theorem zbp.set0{T:TypeId}{W:World}{g:Nat}{r:Int}{f:Nat→Int}(h:zbp T W g r f)(x:Int):zbp T (W.setCell ⟨g,0,none⟩ (.int .i64 x)) g x f:=by
 obtain⟨cur,h1,hn,h0,h2⟩:=h;refine⟨_,zal h1 0 _,by simpa using hn,?_,fun j hj=>?_⟩
 ·rw[waf,if_pos rfl,if_pos (by omega)]
 ·rw[waf,if_neg (by omega),h2 j hj]
theorem zbp.store{T:TypeId}{W:World}{g:Nat}{r:Int}{f:Nat→Int}(h:zbp T W g r f)(r':Int)(f':Nat→Int) :
  zbp T (((((((((((W.setCell ⟨g,0,none⟩ (.int .i64 r')).setCell ⟨g,1,none⟩ (.int .i64 (f' 0))).setCell ⟨g,2,none⟩ (.int .i64 (f' 1))).setCell ⟨g,3,none⟩ (.int .i64 (f' 2))).setCell ⟨g,4,none⟩ (.int .i64 (f' 3))).setCell ⟨g,5,none⟩ (.int .i64 (f' 4))).setCell ⟨g,6,none⟩ (.int .i64 (f' 5))).setCell ⟨g,7,none⟩ (.int .i64 (f' 6))).setCell ⟨g,8,none⟩ (.int .i64 (f' 7))).setCell ⟨g,9,none⟩ (.int .i64 (f' 8))).setCell ⟨g,10,none⟩ (.int .i64 (f' 9))) g r' f':=by
 refine(((((((((((h.set0 r').set 0 (by omega) (f' 0)).set 1 (by omega) (f' 1)).set 2 (by omega) (f' 2)).set 3 (by omega) (f' 3)).set 4 (by omega) (f' 4)).set 5 (by omega) (f' 5)).set 6 (by omega) (f' 6)).set 7 (by omega) (f' 7)).set 8 (by omega) (f' 8)).set 9 (by omega) (f' 9)).congr fun j hj=>?_
 match j,hj with
 |0,_=>simp
 |1,_=>simp
 |2,_=>simp
 |3,_=>simp
 |4,_=>simp
 |5,_=>simp
 |6,_=>simp
 |7,_=>simp
 |8,_=>simp
 |9,_=>simp
theorem z1a{w W:World}(h:Ext w W){g:Nat}(hg:w.heap.size≤g)(a0 a1 a2 a3 a4 a5 a6 a7 a8 a9 a10:Value):Ext w (((((((((((W.setCell ⟨g,0,none⟩ a0).setCell ⟨g,1,none⟩ a1).setCell ⟨g,2,none⟩ a2).setCell ⟨g,3,none⟩ a3).setCell ⟨g,4,none⟩ a4).setCell ⟨g,5,none⟩ a5).setCell ⟨g,6,none⟩ a6).setCell ⟨g,7,none⟩ a7).setCell ⟨g,8,none⟩ a8).setCell ⟨g,9,none⟩ a9).setCell ⟨g,10,none⟩ a10):=by
 exact(((((((((((h.setCell (p:=⟨g,0,none⟩) hg _).setCell (p:=⟨g,1,none⟩) hg _).setCell (p:=⟨g,2,none⟩) hg _).setCell (p:=⟨g,3,none⟩) hg _).setCell (p:=⟨g,4,none⟩) hg _).setCell (p:=⟨g,5,none⟩) hg _).setCell (p:=⟨g,6,none⟩) hg _).setCell (p:=⟨g,7,none⟩) hg _).setCell (p:=⟨g,8,none⟩) hg _).setCell (p:=⟨g,9,none⟩) hg _).setCell (p:=⟨g,10,none⟩) hg _)
theorem zbp.cells{T:TypeId}{W:World}{g:Nat}{r:Int}{f:Nat→Int}(h:zbp T W g r f):W.cell? ⟨g,0,none⟩=some (.int .i64 r)∧W.cell? ⟨g,1,none⟩=some (.int .i64 (f 0))∧W.cell? ⟨g,2,none⟩=some (.int .i64 (f 1))∧W.cell? ⟨g,3,none⟩=some (.int .i64 (f 2))∧W.cell? ⟨g,4,none⟩=some (.int .i64 (f 3))∧W.cell? ⟨g,5,none⟩=some (.int .i64 (f 4))∧W.cell? ⟨g,6,none⟩=some (.int .i64 (f 5))∧W.cell? ⟨g,7,none⟩=some (.int .i64 (f 6))∧W.cell? ⟨g,8,none⟩=some (.int .i64 (f 7))∧W.cell? ⟨g,9,none⟩=some (.int .i64 (f 8))∧W.cell? ⟨g,10,none⟩=some (.int .i64 (f 9)) :=
 ⟨h.c0,h.cell 0 (by omega),h.cell 1 (by omega),h.cell 2 (by omega),h.cell 3 (by omega),h.cell 4 (by omega),h.cell 5 (by omega),h.cell 6 (by omega),h.cell 7 (by omega),h.cell 8 (by omega),h.cell 9 (by omega)⟩
theorem zzp{a b c:World}{q:Nat}(h:Ext a b)(k:Kept (fun k=>k≠q) b c)(hq:a.heap.size≤q):Ext a c :=
 Below.trans h ((k.mono (T:=fun k=>k<a.heap.size) (fun i _ hi=>by omega)).below h.size)
theorem zqs(T:TypeId)(w:World):zbp T (w.alloc (.cells #[.int .i64 0,.int .i64 0,.int .i64 0,.int .i64 0,.int .i64 0,.int .i64 0,.int .i64 0,.int .i64 0,.int .i64 0,.int .i64 0,.int .i64 0] T)) w.heap.size 0 (fun _=>0):=zgq T w 0 (fun _=>0)
def zwd(i:Nat)(j:Nat):Int:=if j<i then 1 else 0
theorem zafi{n j:Nat}:zwd n j=mkI (List.replicate n true) j:=by
 unfold zwd mkI;rw[wch,wcs]
 by_cases h:j<n
 ·rw[if_pos h,if_pos h];rfl
 ·rw[if_neg h,if_neg h];rfl
def zzq(ts:List (List Nat))(race:Nat)(al:List Bool)(i k j:Nat):Int:=if j<k then mkI (zd9 ts race al i) j else 0
theorem zafj{ts:List (List Nat)}{race:Nat}{al:List Bool}{i n j:Nat}(hn:ts.length=n):zzq ts race al i n j=mkI (zd9 ts race al i) j:=by
 unfold zzq
 by_cases h:j<n
 ·rw[if_pos h]
 ·rw[if_neg h]
  unfold mkI;rw[wch,wco (by rw[zlq];omega)];rfl
theorem zacx (n p:Nat)(rv:Value)(ta:Option Addr)(tc:Nat)(w:World)(hs:zc2 w p rv (.slice ta n tc))(hn:n≤10) :
  Calls Tryz.prog 110 #[.pointer (some ⟨p,0,none⟩)] w fun e w'=>e=.returned (.agg (zdk 0 (mkI (List.replicate n true))))∧Ext w w':=by
 have hz:=hs.lt;have c1:=hs.c1;clear hs
 go_enter Tryz.func110,Tryz.ntmps110
 go_upto_region 2 with(fail);obtain⟨W0,hW0⟩:∃W0,W0=(w.alloc (.cells #[.int .i64 0,.int .i64 0,.int .i64 0,.int .i64 0,.int .i64 0,.int .i64 0,.int .i64 0,.int .i64 0,.int .i64 0,.int .i64 0,.int .i64 0] 161)).alloc (.cells #[.int .i64 0,.int .i64 0,.int .i64 0,.int .i64 0,.int .i64 0,.int .i64 0,.int .i64 0,.int .i64 0,.int .i64 0,.int .i64 0,.int .i64 0] 161):=⟨_,rfl⟩
 have hE:Ext w W0:=by rw[hW0];exact xx
 have hr:zbp 161 W0 w.heap.size 0 (fun _=>0):=by
  rw[hW0];exact(zqs _ w).ext xx
 have hp:zbp 161 W0 (w.heap.size+1) 0 (zwd 0):=by
  have h:=(zqs 161 (w.alloc (.cells #[.int .i64 0,.int .i64 0,.int .i64 0,.int .i64 0,.int .i64 0,.int .i64 0,.int .i64 0,.int .i64 0,.int .i64 0,.int .i64 0,.int .i64 0] 161))).congr (f':=zwd 0) fun j _=>by unfold zwd;simp
  rw[←hW0]at h;simpa using h
 have k1:=zh hE c1;have hzw:W0.heap.size=w.heap.size+2:=by rw[hW0];simp
 obtain⟨q,hq⟩:∃q,q=w.heap.size:=⟨_,rfl⟩
 rw[←hW0];rw[←hq]at hr hp hzw ⊢;obtain⟨g,hg⟩:∃g,g=q+1:=⟨_,rfl⟩
 rw[←hg]at hp ⊢;have HR:=hid hr;have HP:=hid hp;have HE:=hid hE;have HQ:=hid hq;have HG:=hid hg;have HZ:=hid hzw;have hzp:p<W0.heap.size:=by omega
 have hpg:p≠g:=by omega
 have HPG:=hid hpg;clear hW0 hE hr hp hq hg hzw c1 hz hpg;go_wp2_with fail
 go_loopw [10] (fun iv wr=>∃i:Nat,i≤n∧iv=.int .i64 i∧zbp 161 wr g 0 (zwd i)∧Kept (fun k=>k≠g) W0 wr) (fun iv _=>n-(intOf iv).toNat)
 case atStart=>exact⟨0,by omega,rfl,HP.out,Kept.refl _ _⟩
 case round =>
  obtain⟨i,hi,rfl,hA,hK⟩:=hrel;have HA:=hid hA;have HK:=hid hK
  by_cases hlt:i<n
  ·have hii:(i:Int)<(n:Int):=by omega
   have ci:=hA.cell i (by omega);have hfr:=hA.free (1+i);have hgl:=hA.lt;have hi10:i<10:=by omega
   clear hA hK;go_wp2_with fail;go_roundw
   case rel =>
    refine⟨i+1,by omega,by go_num,(HA.out.set i hi10 1).congr fun j hj=>?_,HK.out.setCell (fun _ h=>h rfl) _⟩;unfold zwd
    by_cases e:j=i
    ·rw[if_pos e,if_pos (by omega)]
    ·rw[if_neg e]
     by_cases e2:j<i
     ·rw[if_pos e2,if_pos (by omega)]
     ·rw[if_neg e2,if_neg (by omega)]
   case measure=>simp[intOf];omega
  ·have hii:¬((i:Int)<(n:Int)):=by omega
   have hie:i=n:=by omega
   rw[hie]at hA;have hA2:zbp 161 wr g 0 (mkI (List.replicate n true)):=hA.congr fun j _=>zafi
   obtain⟨f,hf⟩:∃f,f=mkI (List.replicate n true):=⟨_,rfl⟩
   rw[←hf]at hA2;have HFF:=hid hf;obtain⟨a0,a1,a2,a3,a4,a5,a6,a7,a8,a9,a10⟩:=hA2.cells;have hq1:=HR.out.of_heap (hK.same q (by rw[HZ.out];omega) (by have:=HG.out;omega));obtain⟨d0,d1,d2,d3,d4,d5,d6,d7,d8,d9,d10⟩:=hq1.cells;have hfr:=hq1.free;have hgl:=hA2.lt;have hrl:=hq1.lt;have HE2:Hid (Ext w wr):=hid (zzp HE.out hK (by have:=HG.out;have:=HQ.out;omega));have HRQ:=hid HQ.out;clear hA hA2 hK hq1 HA HK hi hie hf;go_wp2_with fail;refine bodyPost_ret (v:=.agg (zdk 0 f)) (by simp[zdk,results,Tryz.results110,go_sem,d0,d1,d2,d3,d4,d5,d6,d7,d8,d9,d10]) rfl ?_
   exact⟨by rw[HFF.out],z1a HE2.out (by have:=HRQ.out;omega) _ _ _ _ _ _ _ _ _ _ _⟩
theorem Kept.drNb{S:Nat→Prop}{a b:World}(h:Kept S a b)(n:Nat):Kept S a (b.drewN n):=⟨h.os,h.tape,h.output,h.size,h.same⟩
theorem zzr{ps:List (Value×Tk)}{k:Nat}(h:k<ps.length):(zap (zac ps)).getD k []=ps[k].2.s:=by
 rw[wch];simp[zap,zac,wcn h]
theorem zh9(ps:List (Value×Tk)):(zap (zac ps)).length=ps.length:=by simp[zap,zac]
theorem z4j(ps:List (Value×Tk))(al:List Bool)(race i n p:Nat)(rv:Value)(ta:Option Addr)(tc:Nat)(w:World)(hs:zc2 w p rv (.slice ta ps.length tc))(ht:ze4 w (.slice ta ps.length tc) ps)(hl:ps.length≤10)(hr:race<n)(hn:n≤5)
  (hlen:∀x∈ps,x.2.s.length=n) (hle:∀x∈ps,∀r,r<n→x.2.s.getD r 0≤64) (hi:i≤6) :
  Calls Tryz.prog 152 #[.pointer (some ⟨p,0,none⟩),.agg (zdk race (mkI al)),.int .i64 i] w fun e w'=>e=.returned (.agg (zdk ((race:Int)+1) (mkI (zd9 (zap (zac ps)) race al i))))∧Ext w w':=by
 have hz:=hs.lt;have c1:=hs.c1;have HT0:=hid ht;have HLEN:=hid hlen;have HLE:=hid hle;clear hs ht hlen hle;unfold zdk;obtain⟨f,hf⟩:∃f,f=mkI al:=⟨_,rfl⟩
 rw[←hf];have HF:=hid hf;clear hf
 go_enter Tryz.func152,Tryz.ntmps152
 go_upto_region 1 with(fail);obtain⟨W9,hW9⟩:∃W9,W9=(w.alloc (.cells #[.int .i64 race,.int .i64 (f 0),.int .i64 (f 1),.int .i64 (f 2),.int .i64 (f 3),.int .i64 (f 4),.int .i64 (f 5),.int .i64 (f 6),.int .i64 (f 7),.int .i64 (f 8),.int .i64 (f 9)] 161)).alloc (.cells #[.int .i64 0,.int .i64 0,.int .i64 0,.int .i64 0,.int .i64 0,.int .i64 0,.int .i64 0,.int .i64 0,.int .i64 0,.int .i64 0,.int .i64 0] 161):=⟨_,rfl⟩
 have hE9:Ext w W9:=by rw[hW9];exact xx
 have hr9:zbp 161 W9 (w.heap.size+1) 0 (fun _=>0):=by
  have h:=zqs 161 (w.alloc (.cells #[.int .i64 race,.int .i64 (f 0),.int .i64 (f 1),.int .i64 (f 2),.int .i64 (f 3),.int .i64 (f 4),.int .i64 (f 5),.int .i64 (f 6),.int .i64 (f 7),.int .i64 (f 8),.int .i64 (f 9)] 161));rw[←hW9]at h;simpa using h
 have hp9:zbp 161 W9 w.heap.size race f:=by
  rw[hW9];exact(zgq 161 w race f).ext xx
 have hz9:W9.heap.size=w.heap.size+2:=by rw[hW9];simp
 have kp9:=hp9.c0;have kz9:=hp9.lt;have hwr:IntKind.i64.wrap ((race:Int)+1)=(race:Int)+1:=wbh _ (by omega);rw[←hW9];clear hW9;go_upto_region 2 with(fail);obtain⟨R0,hR0⟩:∃R0,R0=(race:Int)+1:=⟨_,rfl⟩
 rw[←hR0];obtain⟨Z0,hZ0⟩:∃Z0:Nat→Int,Z0=fun _=>0:=⟨_,rfl⟩
 obtain⟨W0,hW0⟩:∃W0,W0=W9.alloc (.cells #[.int .i64 R0,.int .i64 0,.int .i64 0,.int .i64 0,.int .i64 0,.int .i64 0,.int .i64 0,.int .i64 0,.int .i64 0,.int .i64 0,.int .i64 0] 161):=⟨_,rfl⟩
 have hg0:zbp 161 W0 W9.heap.size ((race:Int)+1) (zzq (zap (zac ps)) race al i 0):=by
  rw[hW0,←hR0];exact(zgq 161 W9 R0 (fun _=>0)).congr fun j _=>by unfold zzq;simp
 have hE0:Ext W9 W0:=by rw[hW0];exact xx
 rw[←hW0];rw[hR0];have hE:=hE9.trans' hE0;have hr:=hr9.ext hE0;have hp:=hp9.ext hE0;have k1:=zh hE c1;obtain⟨q,hq⟩:∃q,q=w.heap.size:=⟨_,rfl⟩
 obtain⟨g,hg⟩:∃g,g=q+2:=⟨_,rfl⟩
 rw[←hq]at hr hp hz9 ⊢;rw[hz9]at hg0;rw[←hg]at hg0 ⊢;have hzg:g<W0.heap.size:=hg0.lt;have hgq:g=q+2:=by omega
 have HR:=hid hr;have HPQ:=hid hp;have HG0:=hid hg0;have HE:=hid hE;have HQ:=hid hq;have HGQ:=hid hgq;have HZG:=hid hzg;have hzp:p<W0.heap.size:=by omega
 clear hW0 hR0 hZ0 hg0 hE0 hE hr hp hq hg hz9 hr9 hp9 kp9 kz9 hE9 c1 hz hgq hzg hwr;go_wp2_with fail
 go_loopw [19] (fun iv wr=>∃k:Nat,k≤ps.length∧iv=.int .i64 k∧zbp 161 wr g ((race:Int)+1) (zzq (zap (zac ps)) race al i k)∧Kept (fun k=>k≠g) W0 wr) (fun iv _=>ps.length-(intOf iv).toNat)
 case atStart=>exact⟨0,by omega,rfl,HG0.out,Kept.refl _ _⟩
 case round =>
  obtain⟨k,hk,rfl,hA,hK⟩:=hrel;have HA:=hid hA;have HK:=hid hK;have hEw:Ext w wr:=zzp HE.out hK (by have:=HQ.out;have:=HGQ.out;omega);have HEW:=hid hEw;have HPA:Hid (zbp 161 wr q race f):=hid (HPQ.out.of_heap (hK.same q (by have:=HZG.out;have:=HGQ.out;omega) (by have:=HGQ.out;omega)));have HRA:Hid (zbp 161 wr (q+1) 0 (fun _=>0)):=hid (HR.out.of_heap (hK.same (q+1) (by have:=HZG.out;have:=HGQ.out;omega) (by have:=HGQ.out;omega)))
  by_cases hlt:k<ps.length
  ·have hki:(k:Int)<(ps.length:Int):=by omega
   have hT:=HT0.out.ext hEw;obtain⟨_,_,e9,-,-,hcc⟩:=hT.spec;cases e9
   rcases hcc with hc0|⟨tb,to,rfl,hcc⟩
   ·rw[hc0]at hlt;simp at hlt
   obtain⟨t0,t1⟩:=hcc k hlt;have zt:=wfu _ _ t0;simp only at zt;have hln:=HLEN.out _ (wcy hlt);have hsv0:=hT.sets _ (wcy hlt);obtain⟨sa,sc,hsv,-,-,-⟩:=hsv0.spec;rw[zad,hln]at hsv;rw[hsv]at hsv0 t0;obtain⟨sb,so,rfl,hcs⟩:=za7 hsv0 (show race<ps[k].2.s.length by rw[hln];exact hr);have hcs1:=fun W e=>hcs race (by rw[hln];exact hr) W e
   have hs64:=HLE.out _ (wcy hlt) race hr;obtain⟨u,hu⟩:∃u,u=ps[k].2.u:=⟨_,rfl⟩
   rw[←hu]at t1;have hmk:bits .and .i64 (f k) ((ps[k].2.s.getD race 0:Int) / 2^i)=mkI (zd9 (zap (zac ps)) race al i) k:=by
    rw[zh7,HF.out];have h:=zacu (ts:=zap (zac ps)) (race:=race) (al:=al) (i:=i) (j:=k) (by rw[zh9];exact hlt) (by rw[zzr hlt];omega);rw[zzr hlt]at h;exact h
   obtain⟨s,hs⟩:∃s:Nat,s=ps[k].2.s.getD race 0:=⟨_,rfl⟩
   rw[←hs]at hcs1 hs64 hmk;obtain⟨m,hm⟩:∃m,m=mkI (zd9 (zap (zac ps)) race al i) k:=⟨_,rfl⟩
   rw[←hm]at hmk;have HM:=hid hm;have hk10:k<10:=by omega
   have hk10i:(k:Int)<10:=by omega
   have hri:(race:Int)<(n:Int):=by omega
   clear hA hK hT hcc hln hsv0 hsv hs hm hu hcs hEw;go_upto_region 5 with(fail);obtain⟨X,hX⟩:∃X,X=wr.alloc (.cells #[.slice (some ⟨sb,so,none⟩) n sc,.int .i64 u] 35):=⟨_,rfl⟩
   have hEX:Ext wr X:=by rw[hX];exact xx
   have x0:X.cell? ⟨wr.heap.size,0,none⟩=some (.slice (some ⟨sb,so,none⟩) n sc):=by rw[hX];simp[go_sem]
   have hA2:=HA.out.ext hEX;have hP2:=HPA.out.ext hEX;have xs:=hcs1 X hEX;have xf:=hP2.cell k hk10;have xr:=hP2.c0;have xg:=hA2.cell k hk10;have xfr:=hA2.free (1+k);have zg:=hA2.lt;have zq:=hP2.lt;have zx:=wfu _ _ x0;have zs:=wfu _ _ xs;simp only at zx zs;rw[←hX];have HA2:=hid hA2;have HEX:=hid hEX;clear hX hA2 hP2 hEX t0 t1 hcs1 zt;refine(wpIn_wide (n:=9)).1 ?_
   refine zp4 rfl rfl (by kernel_rfl) (by kernel_rfl) (by kernel_rfl) ?_
   dsimp only[List.dropLast]
   repeat (first|go_big_quiet_step (fail)|quiet_step (fail))
   refine wpQuiet_nil ?_
   rintro _ ⟨nq,rfl⟩;gi_wp2_with fail;go_wp2_with fail;go_roundw
   case rel =>
    refine⟨k+1,by omega,by go_num,((HA2.out.of_heap (W':=X.drewN nq) rfl).set k hk10 m).congr fun j hj=>?_,((HK.out.trans (Kept.of_below HEX.out)).drNb nq).setCell (fun _ h=>h rfl) _⟩;unfold zzq
    by_cases e:j=k
    ·rw[if_pos e,if_pos (by omega),HM.out,e]
    ·rw[if_neg e]
     by_cases e2:j<k
     ·rw[if_pos e2,if_pos (by omega)]
     ·rw[if_neg e2,if_neg (by omega)]
   case measure=>simp[intOf];omega
  ·have hki:¬((k:Int)<(ps.length:Int)):=by omega
   have hke:k=ps.length:=by omega
   rw[hke]at hA;have hA2:zbp 161 wr g ((race:Int)+1) (mkI (zd9 (zap (zac ps)) race al i)):=hA.congr fun j _=>zafj (zh9 ps)
   obtain⟨m,hm⟩:∃m,m=mkI (zd9 (zap (zac ps)) race al i):=⟨_,rfl⟩
   obtain⟨R,hR⟩:∃R,R=(race:Int)+1:=⟨_,rfl⟩
   rw[←hm,←hR]at hA2;have HM:=hid hm;have HRR:=hid hR;obtain⟨a0,a1,a2,a3,a4,a5,a6,a7,a8,a9,a10⟩:=hA2.cells;have hq1:=HRA.out;obtain⟨d0,d1,d2,d3,d4,d5,d6,d7,d8,d9,d10⟩:=hq1.cells;have hfr:=hq1.free;have hgl:=hA2.lt;have hrl:=hq1.lt;have HRQ:=hid HQ.out;clear hA hA2 hK hq1 HA HK hk hke hm hR hEw HPA HRA;go_wp2_with fail;refine bodyPost_ret (v:=.agg (zdk R m)) (by simp[zdk,results,Tryz.results152,go_sem,d0,d1,d2,d3,d4,d5,d6,d7,d8,d9,d10]) rfl ?_
   exact⟨by rw[HM.out,HRR.out];rfl,z1a HEW.out (by have:=HRQ.out;omega) _ _ _ _ _ _ _ _ _ _ _⟩
theorem z8d{us:List Int}{al:List Bool}(hu:∀j,0≤us.getD j 0∧us.getD j 0≤1000):∀k,0≤zdd us al k∧zdd us al k≤1000*(k:Int)
 |0=>by simp[zdd]
 |k+1=>by
  have h:=z8d (al:=al) hu k;have h1:=hu k;unfold zdd
  split<;>omega
theorem zxr(ps:List (Value×Tk))(al:List Bool)(p:Nat)(rv:Value)(ta:Option Addr)(tc:Nat)(w:World)(hs:zc2 w p rv (.slice ta ps.length tc))(ht:ze4 w (.slice ta ps.length tc) ps)(hl:ps.length≤10)(hu:∀j,0≤(za2 (zac ps)).getD j 0∧(za2 (zac ps)).getD j 0≤1000) :
  Calls Tryz.prog 155 #[.pointer (some ⟨p,0,none⟩),.agg #[.int .i64 (mkI al 0),.int .i64 (mkI al 1),.int .i64 (mkI al 2),.int .i64 (mkI al 3),.int .i64 (mkI al 4),.int .i64 (mkI al 5),.int .i64 (mkI al 6),.int .i64 (mkI al 7),.int .i64 (mkI al 8),.int .i64 (mkI al 9)]] w fun e w' =>
   e=.returned (.int .i64 (zdd (za2 (zac ps)) al ps.length))∧Ext w w':=by
 have HS:=hid hs;have HT:=hid ht;have HU:=hid hu;clear hs ht hu
 go_enter Tryz.func155,Tryz.ntmps155
 go_upto_region 1 with(fail);obtain⟨W0,hW0⟩:∃W0,W0=w.alloc (.cells #[.int .i64 (mkI al 0),.int .i64 (mkI al 1),.int .i64 (mkI al 2),.int .i64 (mkI al 3),.int .i64 (mkI al 4),.int .i64 (mkI al 5),.int .i64 (mkI al 6),.int .i64 (mkI al 7),.int .i64 (mkI al 8),.int .i64 (mkI al 9)] 159):=⟨_,rfl⟩
 have hE:Ext w W0:=by rw[hW0];exact xx
 have hM:zwc 159 W0 w.heap.size (mkI al):=by rw[hW0];exact zacv _ w (mkI al)
 rw[←hW0];have c1:=zh hE HS.out.c1;have hz:=wfu _ _ c1;simp only at hz;have HM:=hid hM;have HE:=hid hE;clear hW0 hE hM;go_wp2_with fail
 go_loopw [5,13] (fun nv iv W=>∃k:Nat,k≤ps.length∧iv=.int .i64 k∧nv=.int .i64 (zdd (za2 (zac ps)) al k)∧Ext W0 W) (fun _ iv _=>ps.length-(intOf iv).toNat)
 case atStart=>exact⟨0,by omega,rfl,rfl,Below.refl _ _⟩
 case round =>
  obtain⟨k,hk,rfl,rfl,hEX⟩:=hrel;obtain⟨X,rfl⟩:∃X,X=wr:=⟨_,rfl⟩
  have HEX:=hid hEX;have hvb:=z8d (al:=al) HU.out k;have hub:=HU.out k
  by_cases hlt:k<ps.length
  ·have hki:(k:Int)<(ps.length:Int):=by omega
   obtain⟨_,_,e9,-,-,hcc⟩:=(HT.out.ext (HE.out.trans' hEX)).spec;cases e9
   rcases hcc with hc0|⟨tb,to,rfl,hcc⟩
   ·rw[hc0]at hlt;simp at hlt
   obtain⟨t0,t1⟩:=hcc k hlt;have zt:=wfu _ _ t0;simp only at zt;obtain⟨sb,sc,hsv,-,-,-⟩:=(HT.out.sets _ (wcy hlt)).spec;rw[hsv]at t0;have hk10:k<10:=by omega
   have hk10i:(k:Int)<10:=by omega
   have cm:=zh hEX (HM.out.cell k hk10);have zm:=wfu _ _ cm;simp only at zm;obtain⟨u,hu⟩:∃u,u=ps[k].2.u:=⟨_,rfl⟩
   have huu:(za2 (zac ps)).getD k 0=u:=by
    rw[hu,wch];simp[za2,zac,wcn hlt]
   rw[←hu]at t1;obtain⟨v,hv⟩:∃v,v=zdd (za2 (zac ps)) al k:=⟨_,rfl⟩
   have hsu:zdd (za2 (zac ps)) al (k+1)=v+if al.getD k false=true then u else 0:=by rw[hv,←huu];rfl
   rw[huu]at hub;rw[←hv]at hvb ⊢;cases ha:al.getD k false
   ·have hmk:mkI al k=0:=by unfold mkI;rw[ha];rfl
    rw[hmk]at cm;rw[ha]at hsu;have HSU:Hid (zdd (za2 (zac ps)) al (k+1)=v):=hid (by rw[hsu];simp);clear hsu hmk ha hv hu huu hsv hcc hEX;go_wp2_with fail;go_roundw
    case rel=>exact⟨k+1,by omega,by go_num,by rw[HSU.out],HEX.out.trans' (by exact xx)⟩
    case measure=>simp[intOf];omega
   ·have hmk:mkI al k=1:=by unfold mkI;rw[ha];rfl
    rw[hmk]at cm;rw[ha]at hsu;have HSU:Hid (zdd (za2 (zac ps)) al (k+1)=v+u):=hid (by rw[hsu];simp);have hw1:IntKind.i64.wrap (v+u)=v+u:=wbh _ (by omega);clear hsu hmk ha hv hu huu hsv hcc hEX;go_wp2_with fail;go_roundw
    case rel=>exact⟨k+1,by omega,by go_num,by rw[HSU.out],HEX.out.trans' (by exact xx)⟩
    case measure=>simp[intOf];omega
  ·have hki:¬((k:Int)<(ps.length:Int)):=by omega
   have hke:k=ps.length:=by omega
   obtain⟨v,hv⟩:∃v,v=zdd (za2 (zac ps)) al k:=⟨_,rfl⟩
   rw[←hv];have HVV:Hid (v=zdd (za2 (zac ps)) al ps.length):=hid (by rw[hv,hke]);clear hEX hv hke hvb;go_wp2_with fail;go_ret;exact⟨zg8 HVV.out,HE.out.trans' HEX.out⟩
end Go.Proofs.YtdcnbeehckgpcaaGreat
