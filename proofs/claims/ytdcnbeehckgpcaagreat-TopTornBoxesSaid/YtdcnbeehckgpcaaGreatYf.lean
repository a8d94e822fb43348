/-
  What the statements' arguments hold: slices of numbers; and what a statement's call leaves, out of 'nothing that there was has turned'.
-/
import Derived.Test.YtdcnbeehckgpcaaGreatRows
import Derived.Lib.SmallJoins
import Derived.Test.YtdcnbeehckgpcaaGreatTnW
set_option maxRecDepth 200000
set_option maxHeartbeats 0
namespace Go.Proofs.YtdcnbeehckgpcaaGreat
open Go.Lib (hid)
open Go.ChangeShapes Go.WideShapes Go.ChangeAt Go.RowKit
theorem own:ownKnob Tryz.prog.godebug=none:=by kernel_rfl
theorem laidOut:laidOutB Tryz.prog=true:=by kernel_rfl
section
variable{H:Type}{enc:TypeId×Value→H}{P:Program}{W W':World}
theorem zrv(hl:laidOutB P=true)(hb:Below W.heap.size W W'):∀(ts:List TypeId) (vs:List Value) (ds:List (DataW H)) (ps:List MemPlace),(∀t∈ts,P.readableRec t=true∧t<P.types.size)→DataW.TrodAll enc P W 0 (fun _=>true) true ts vs ds ps→(∀x∈ps,x.block<W.heap.size) →
  DataW.TrodAll enc P W' 0 (fun b=>decide (b<W.heap.size)) true ts vs ds ps
 |[],[],[],ps,_,h,_=>h
 |t::ts,v::vs,d::ds,ps,ht,h,hp=>by
  obtain⟨p,q,h1,h2,rfl⟩:=h;exact⟨p,q,Below.trod hl (ht t (by simp)).1 (ht t (by simp)).2 h1 hb (fun x hx=>hp x (by simp[hx])),zrv hl hb ts vs ds q (fun t' h'=>ht t' (by simp[h'])) h2 (fun x hx=>hp x (by simp[hx])),rfl⟩
 |[],_::_,_,_,_,h,_=>h.elim
 |[],[],_::_,_,_,h,_=>h.elim
 |_::_,[],_,_,_,h,_=>h.elim
 |_::_,_::_,[],_,_,h,_=>h.elim
def htsB(P:Program)(ts:List TypeId):Bool:=ts.all fun t=>P.readableRec t&&decide (t<P.types.size)
theorem zak9{ts:List TypeId}(h:htsB P ts=true):∀t∈ts,P.readableRec t=true∧t<P.types.size:=fun t ht=>by
 have:=wbk.1 h t ht;simpa using this
theorem zahg{f:Func}{s:ChangeSpec}{args:Array Value}{ds gs:List (DataW H)}{before:List MemPlace}{tb:TypeId}(hl:laidOutB P=true)(hts:∀t∈f.params.toList,P.readableRec t=true∧t<P.types.size)(hres:f.resultTypes=#[tb])(htb:P.underlying tb=some .bool)
  (hW:DataW.Whole enc P f.params.toList s.vars false W args.toList ds gs before) (hvars:s.vars=[]) (hfn:s.fn H ds={ results:=[.lit (.bool true)],args:=ds }) (hb:Below W.heap.size W W') :
  s.post enc P f false true false false W args (.bool true) W':=by
 have hlt:=hW.lt;have hW':=hW;obtain⟨p,q,hA,hV,rfl,_,_⟩:=hW;rw[hvars]at hV;obtain⟨rfl,rfl⟩:=trodVars_none hV;have hfn':s.fn H (ds++[])={ results:=[.lit (.bool true)],args:=ds }:=by rw[wbn];exact hfn
 refine⟨ds,[],p++[],[],p,[],hW',?_,?_,?_,World.keptBut_mono (fun x hx=>⟨hx,?_⟩) (hb.frame (·∈p++[])),fun h=>by cases h⟩
 ·rw[hres,hfn']
  exact⟨[],[],shut_bool htb true,rfl,rfl⟩
 ·rw[hfn']
  exact zrv hl hb _ _ _ _ hts hA fun x hx=>hlt x (by simp[hx])
 ·rw[hfn',hvars]
  rfl
 ·right;left;simpa using hx
end
section
variable{H:Type}{enc:TypeId×Value→H}{W:World}{sp:Nat→Bool}{held:Bool}{base b0:Nat}{r:Reach}
theorem zw0{t e:TypeId}{sz:Nat}(ht:Tryz.prog.underlying t=some (.slice e))(hc:Tryz.prog.cellsOf e=sz)(hs0:0<sz){n:Nat}{v:Value}{y:DataW H×List MemPlace}(h:DataW.trod enc Tryz.prog W base sp held n t [v]=some y) :
  ∃rows:List (List Value),zao W sz v rows∧∀row∈rows,row.length=sz∧∃m y',DataW.trod enc Tryz.prog W base sp held m e row=some y':=by
 rcases Go.Deep.open_slice ht h with⟨h1,_⟩|⟨a,len,cap,m,n,D,Pl,h1,_,h2,h3,h4,_,h5⟩
 ·cases h1
  exact⟨[],⟨none,0,rfl,by simp,by omega,.inl rfl⟩,by simp⟩
 ·cases h1
  have hlm:len≤m:=by rw[h4];split<;>omega
  obtain⟨rows,hr1,hr2⟩:∃rows:List (List Value),rows.length=len∧∀i (hi:i<rows.length),W.cells? base (a.add (i*sz)) sz=some rows[i]∧∃y',DataW.trod enc Tryz.prog W base sp held n e rows[i]=some y':=by
   have key:∀k,k≤len→∃rows:List (List Value),rows.length=k∧∀i (hi:i<rows.length),W.cells? base (a.add (i*sz)) sz=some rows[i]∧∃y',DataW.trod enc Tryz.prog W base sp held n e rows[i]=some y':=by
    intro k
    induction k with
    |zero=>exact fun _=>⟨[],rfl,fun i hi=>by simp at hi⟩
    |succ k ih =>
     intro hk;obtain⟨rows,q1,q2⟩:=ih (by omega);obtain⟨cs',q3,q4⟩:=h5 k (by omega);rw[hc]at q3;refine⟨rows++[cs'],by simp[q1],fun i hi=>?_⟩
     by_cases hik:i<rows.length
     ·rw[List.getElem_append_left hik];exact q2 i hik
     ·have hik':i=k:=by simp at hi;omega
      subst hik';rw[List.getElem_append_right (by omega)];simp only[q1,we6,wcw];exact⟨q3,_,q4⟩
   exact key len (weq _)
  subst hr1;refine⟨rows,⟨some a,cap,rfl,h2,by simpa[maxLen]using h3,?_⟩,fun row hrow=>?_⟩
  ·by_cases hz:rows=[]
   ·exact .inl hz
   ·have hr0:0<rows.length:=List.length_pos_iff.2 hz
    obtain⟨_,q2,q3⟩:=wfv (hr2 0 hr0).1;have q4:=q3 0 hs0;rw[wcn (by omega)]at q4;simp[Addr.add]at q4;have hsp:=World.cell?_spot q4
    right
    obtain⟨ab,ao,asp⟩:=a;simp only at hsp;subst hsp;refine⟨ab,ao,rfl,fun i hi j hj=>?_⟩;obtain⟨_,q5,q6⟩:=wfv (hr2 i hi).1;have q7:=q6 j (by omega);rw[wcn hj,addr_add,addr_add]at q7;exact q7
  ·obtain⟨i,hi,rfl⟩:=wc0 hrow
   obtain⟨q1,y',q2⟩:=hr2 i hi;exact⟨(wfv q1).2.1,n,y',q2⟩
theorem z6x {α:Type}(f:α→List Value):∀(rows:List (List Value)),(∀r∈rows,∃x,r=f x)→∃l:List α,rows=l.map f
 |[],_=>⟨[],rfl⟩
 |r::rs,h=>by
  obtain⟨x,rfl⟩:=h r (by simp);obtain⟨l,rfl⟩:=z6x f rs fun r hr=>h r (by simp[hr])
  exact⟨x::l,rfl⟩
end
section
variable{H:Type}{enc:TypeId×Value→H}{W:World}{sp:Nat→Bool}{held:Bool}{base b0:Nat}{r:Reach}
theorem zajw{v:Value}{d:DataW H}{p:List MemPlace}(hv:Value.okWide Tryz.prog W r b0 24 v)(h:DataW.Trod enc Tryz.prog W base sp held 24 v d p) :
  ∃(L n rest:Int) (ks:List Int) (kv:Value),v=.agg #[.int .i64 L,.int .i64 n,kv,.int .i64 rest]∧zo W .i64 kv ks:=by
 have hs:=Tryz.underlying24;have hC:Tryz.prog.cellsOf 24=4:=by kernel_rfl
 have c1:Tryz.prog.cellsOf 3=1:=by kernel_rfl
 have c4:Tryz.prog.cellsOf 22=1:=by kernel_rfl
 obtain⟨cs,rfl,hsz⟩:=okWide_struct hs hv;obtain⟨v0,v1,v2,v3,rfl⟩:=Go.Joins.array4 (hsz.trans hC);obtain⟨fuel,hf⟩:=h;obtain⟨y0,y1,y2,y3,n,-,-,h0,h1,h2,h3⟩:=Go.Joins.trod_struct4 hs hf;have g0:DataW.trod enc Tryz.prog W base sp held n 3 [v0]=some y0:=by simpa[Value.cells,c1]using h0
 have g1:DataW.trod enc Tryz.prog W base sp held n 3 [v1]=some y1:=by simpa[Value.cells,c1]using h1
 have g2:DataW.trod enc Tryz.prog W base sp held n 22 [v2]=some y2:=by simpa[Value.cells,c4]using h2
 have g3:DataW.trod enc Tryz.prog W base sp held n 3 [v3]=some y3:=by simpa[Value.cells,c1]using h3
 obtain⟨a,ha,_⟩:=wba Tryz.underlying3 g0;obtain⟨b,hb,_⟩:=wba Tryz.underlying3 g1;obtain⟨c,hc,_⟩:=wba Tryz.underlying3 g3;cases ha;cases hb;cases hc;obtain⟨rows,hr,hx⟩:=zw0 Tryz.underlying22 (sz:=1) (by kernel_rfl) (by omega) g2;obtain⟨l,rfl⟩:=z6x (fun n=>[Value.int .i64 n]) rows fun row hrow=>by
  obtain⟨hl,m,y',ht⟩:=hx row hrow;obtain⟨x,rfl,_,_⟩:=wba Tryz.underlying3 ht;exact⟨x,rfl⟩
 exact⟨a,b,c,l,v2,rfl,hr⟩
theorem zaeu{n:Nat}{v:Value}{y:DataW H×List MemPlace}(h:DataW.trod enc Tryz.prog W base sp held n 32 [v]=some y):∃l:List Int,zo W .u8 v l∧∀x∈l,(Lit.int .u8 x).wf=true:=by
 obtain⟨rows,hr,hx⟩:=zw0 Tryz.underlying32 (sz:=1) (by kernel_rfl) (by omega) h;obtain⟨l,rfl,hl⟩:∃l:List Int,rows=l.map (fun n=>[Value.int .u8 n])∧∀x∈l,(Lit.int .u8 x).wf=true:=by
  clear hr
  induction rows with
  |nil=>exact⟨[],rfl,by simp⟩
  |cons row rs ih =>
   obtain⟨l,rfl,hl⟩:=ih fun r hr=>hx r (by simp[hr])
   obtain⟨_,m,y',ht⟩:=hx row (by simp);obtain⟨x,rfl,_,hw⟩:=wba Tryz.underlying5 ht;exact⟨x::l,rfl,fun y hy=>by rcases wdp.1 hy with rfl|hy;exact hw;exact hl y hy⟩
 exact⟨l,hr,hl⟩
theorem zaev{v:Value}{d:DataW H}{p:List MemPlace}(hv:Value.okWide Tryz.prog W r b0 25 v)(h:DataW.Trod enc Tryz.prog W base sp held 25 v d p) :
  ∃ps:List (Value×List Int),zao W 1 v (ps.map fun x=>[x.1])∧∀x∈ps,zo W .u8 x.1 x.2∧∀y∈x.2,(Lit.int .u8 y).wf=true:=by
 obtain⟨a0,len,cap,rfl⟩:=okWide_slice Tryz.underlying25 hv;obtain⟨n,hn⟩:=h;obtain⟨rows,hr,hx⟩:=zw0 Tryz.underlying25 (sz:=1) (by kernel_rfl) (by omega) (v:=.slice a0 len cap) (n:=n) (y:=(d,p)) (by simpa[Value.cells]using hn);obtain⟨ps,rfl,hps⟩:∃ps:List (Value×List Int),rows=ps.map (fun x=>[x.1])∧∀x∈ps,zo W .u8 x.1 x.2∧∀y∈x.2,(Lit.int .u8 y).wf=true:=by
  clear hr
  induction rows with
  |nil=>exact⟨[],rfl,by simp⟩
  |cons row rs ih =>
   obtain⟨ps,rfl,hps⟩:=ih fun r hr=>hx r (by simp[hr])
   obtain⟨hl,m,y',ht⟩:=hx row (by simp)
   match row,hl with
   |[v],_ =>
    obtain⟨l,hl⟩:=zaeu ht;exact⟨(v,l)::ps,rfl,fun y hy=>by rcases wdp.1 hy with rfl|hy;exact hl;exact hps y hy⟩
 exact⟨ps,hr,hps⟩
end
open Go.RowKit Go.Shelf
theorem z7j(L n rest:Int)(ks:List Int)(ka:Option Addr)(kc:Nat)(rv:Value)(w:World)(hno:¬zzo L n ks rest)(hk:zo w .i64 (.slice ka ks.length kc) ks) :
  Calls Tryz.prog 3 #[.agg #[.int .i64 L,.int .i64 n,.slice ka ks.length kc,.int .i64 rest],rv] w fun e w'=>e=.returned (.bool true)∧Ext w w':=by
 have HN:=hid hno;clear hno
 go_enter Tryz.func3,Tryz.ntmps3
 go_upto_region 1 with(fail);obtain⟨W0,hW0⟩:∃W0,W0=w.alloc (.cells #[.int .i64 L,.int .i64 n,.slice ka ks.length kc,.int .i64 rest] 24):=⟨_,rfl⟩
 have hE:Ext w W0:=by rw[hW0];exact xx
 obtain⟨Q,hQ⟩:∃Q,Q=w.heap.size:=⟨_,rfl⟩
 have d0:W0.cell? ⟨Q,0,none⟩=some (.int .i64 L):=by rw[hW0,hQ];simp[go_sem]
 have d1:W0.cell? ⟨Q,1,none⟩=some (.int .i64 n):=by rw[hW0,hQ];simp[go_sem]
 have d2:W0.cell? ⟨Q,2,none⟩=some (.slice ka ks.length kc):=by rw[hW0,hQ];simp[go_sem]
 have d3:W0.cell? ⟨Q,3,none⟩=some (.int .i64 rest):=by rw[hW0,hQ];simp[go_sem]
 have zq:=wfu _ _ d0;simp only at zq;have HW:=hid hE;have HK:=hid (zo.ext hE hk);rw[←hW0];rw[←hQ];clear hW0 hk hE hQ;have hd6:=zacr L n rest ks ka kc W0 HK.out;go_wp2_with fail;refine hd6.mono ?_
 rintro e W2 ⟨b,rfl,hE2,hb⟩;have HE2:=hid hE2;cases b
 ·clear hE2 hb hd6
  go_wp2_with fail;refine(zer _).mono ?_
  rintro e W9 ⟨rfl,hE9⟩;go_wp2_with fail;go_ret;exact⟨rfl,(HW.out.trans' HE2.out).trans' hE9⟩
 ·exact absurd (hb rfl) HN.out
theorem ztq:∀{l:List Int},(∀x∈l,0≤x)→l=zy (l.map Int.toNat)
 |[],_=>rfl
 |x::l,h=>by
  have ih:=ztq (l:=l) fun y hy=>h y (wdq _ hy)
  have hx:=h x (wdr ..);simp only[zy,wdg,wdi]at ih ⊢;rw[←ih]
  congr 1
  omega
theorem zaet{L n rest:Int}{ks:List Int}(D:zzo L n ks rest):∃M:zl,zag M∧L=(M.L:Int)∧n=(M.n:Int)∧ks=zy M.ks∧rest=(M.rest:Int):=by
 have hk:=ztq (l:=ks) fun x hx=>(D.kx x hx).1
 have h1:=D.l6;have h2:=D.n8;have h3:=D.rs;have h4:=D.kl;have V:zag (opM ⟨L.toNat,n.toNat,ks.map Int.toNat,rest.toNat,[]⟩):=by
  refine⟨?_,?_,?_,?_,fun i hi=>?_,fun i hi=>?_,?_⟩
  ·show 2≤L.toNat∧L.toNat≤6
   omega
  ·show 2≤n.toNat∧n.toNat≤8
   omega
  ·show(ks.map Int.toNat).length=n.toNat
   rw[wc8];omega
  ·simp[opM]
  ·show(ks.map Int.toNat).getD i 0<L.toNat
   have hi':i<ks.length:=by
    have:i<n.toNat:=hi;omega
   rw[wch,wcq,wcn hi'];have:=D.kx _ (wcy hi');simp only[wfn,wfk];omega
  ·rw[z31 _ (show i<n.toNat from hi)]
   show 2^L.toNat-1<2^L.toNat;have:1≤2^L.toNat:=we1;omega
  ·show rest.toNat<L.toNat
   omega
 refine⟨_,V,?_,?_,hk,?_⟩
 ·show L=(L.toNat:Int)
  omega
 ·show n=(n.toNat:Int)
  omega
 ·show rest=(rest.toNat:Int)
  omega
theorem zwz(L n rest:Int)(ks:List Int)(kv rv:Value)(rs:List (Value×List Int))(w:World)(hk:zo w .i64 kv ks)(hr:zao w 1 rv (rs.map fun x=>[x.1]))(h8:∀x∈rs,zo w .u8 x.1 x.2∧∀y∈x.2,(Lit.int .u8 y).wf=true) :
  Calls Tryz.prog 3 #[.agg #[.int .i64 L,.int .i64 n,kv,.int .i64 rest],rv] w fun e w'=>e=.returned (.bool true)∧Ext w w':=by
 obtain⟨ka,kc,rfl,-⟩:=hk.spec
 by_cases D:zzo L n ks rest
 ·obtain⟨M,V,rfl,rfl,rfl,rfl⟩:=zaet D
  obtain⟨ra,rc,e,h2,h3,h4⟩:=hr;rw[wc8]at e;obtain⟨us,hus⟩:∃us:List (Value×List Nat),us=rs.map fun x=>(x.1,x.2.map Int.toNat):=⟨_,rfl⟩
  have hl:rs.length=us.length:=by rw[hus,wc8]
  have hm:(rs.map fun x=>[x.1])=us.map fun x=>[x.1]:=by rw[hus,wdi];rfl
  have hU:zrq w ra rc us:=⟨⟨ra,rc,by rw[wc8],by rw[←hm];exact h2,h3,by rw[←hm];exact h4⟩,fun x hx=>by
   rw[hus]at hx;obtain⟨y,hy,rfl⟩:=wdv.1 hx;obtain⟨g1,g2⟩:=h8 y hy;have hb0:∀z∈y.2,0≤z∧z≤255:=fun z hz=>bounds_u8 (g2 z hz)
   have hbs:=ztq fun z hz=>(hb0 z hz).1
   refine⟨by rw[hbs]at g1;exact g1,fun z hz=>?_⟩;obtain⟨t,ht,rfl⟩:=wdv.1 hz;have:=hb0 t ht;omega⟩
  rw[e,hl,zad,V.kl];exact z26 M V ka kc ra rc us w (by rw[zad,V.kl]at hk;exact hk) hU
 ·exact z7j L n rest ks ka kc rv w D hk
end Go.Proofs.YtdcnbeehckgpcaaGreat
