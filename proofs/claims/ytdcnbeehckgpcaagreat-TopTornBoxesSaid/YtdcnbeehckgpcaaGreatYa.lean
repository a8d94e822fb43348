/-
  A region that draws its order, whose strong operations have each an effect of its own; what an operation yields names those under which it stays.
-/
import Derived.Test.YtdcnbeehckgpcaaGreatTd
set_option maxRecDepth 200000
set_option maxHeartbeats 0
namespace Go.Proofs.YtdcnbeehckgpcaaGreat
open Go.Lib (hid)
open Go.RowKit Go.Shelf
structure SqM(H:Nat→World→World→Prop) where
 us:List Nat
 p:List Value→Value→World→Prop
 hard:List Nat
 m:∀l v w w',p l v w→Ext w w'→p l v w'
 hm:∀k∈hard,∀l v w w',p l v w→H k w w'→p l v w'
section
variable{H:Nat→World→World→Prop}
def zfq(ks:List Nat)(v0:Value):SqM H:=⟨[],fun _ v _=>v=v0,ks,fun _ _ _ _ h _=>h,fun _ _ _ _ _ _ h _=>h⟩
def zqk:SqM H:=⟨[],fun _ _ _=>True,[],fun _ _ _ _ h _=>h,fun _ h=>by cases h⟩
def zlm(us ks:List Nat)(p:List Value→Value→World→Prop)(m:∀l v w w',p l v w→Ext w w'→p l v w')(hm:∀k∈ks,∀l v w w',p l v w→H k w w'→p l v w'):SqM H:=⟨us,p,ks,m,hm⟩
def zql(A:List (List Nat))(hd:List (List Nat))(st:List Bool)(k j:Nat):Bool:=st.getD k false && !(hd.getD j []).contains k && !(k == j) && !(A.getD j []).contains k
def z92(n:Nat)(A:List (List Nat))(hd:List (List Nat))(st:List Bool):List Bool:=(List.range n).map fun j=>(List.range n).all fun k=>!zql A hd st k j
def zt1(ls:List Oper)(A:List (List Nat))(hd:List (List Nat))(st:List Bool)(U:List (List Nat)):Bool :=
 z9l ls A&&(List.range ls.length).all fun i=>match ls[i]? with
  |none=>true
  |some o=>(zhs ls o++U.getD i []).all fun j=>(List.range ls.length).all fun k=>!zql A hd st k j||k == i||(A.getD k []).contains i
def zaj2(n:Nat)(A:List (List Nat))(hd:List (List Nat))(st:List Bool)(listed:Array Bool)(j:Nat):Prop:=∀k,k<n→listed.getD k false=true→zql A hd st k j=false
def usBM(ls:List Oper)(S:List (SqM H)):Bool:=(List.range ls.length).all fun i=>match ls[i]? with
 |none=>true
 |some o=>(S.getD i zqk).us.all fun k=>(zae o).contains k
def z93(kJ:List Nat)(st:List Bool):List Bool:=(List.range st.length).map fun k=>st.getD k false && !kJ.contains k
def z3b(J:World→Prop)(kJ:List Nat)(w:World)(B:Nat)(ls:List Oper)(S:Nat→SqM H)(A:List (List Nat))(hd:List (List Nat))(st:List Bool)(a:Act)(listed:Array Bool)(a':Act)(W:World):Prop :=
 Below B w W∧zw4 ls listed∧((∀k,k<ls.length→listed.getD k false=true→st.getD k false=false)→Ext w W)∧((∀k,k<ls.length→listed.getD k false=true→st.getD k false=true→k∈kJ)→J W)∧∃val:Nat→Value,(∀j,j<ls.length→listed.getD j false=true→zaj2 ls.length A hd st listed j→(S j).p ((S j).us.map val) (val j) W)∧a'.defers=a.defers∧a'.tmps.size=a.tmps.size ∧
  (∀j s,zaf ls j=some s→listed.getD j false=true→a'.tmps[s]?=some (val j))∧(∀s,(∀j,listed.getD j false=true→zaf ls j≠some s)→a'.tmps[s]?=a.tmps[s]?)
def zji(H:Nat→World→World→Prop)(i:Nat)(strong:Bool)(W W':World):Prop:=if strong then H i W W' else Ext W W'
structure zt2(H:Nat→World→World→Prop)(B:Nat):Prop where
 b:∀i w w',B≤w.heap.size→H i w w'→Below B w w'
 s:∀i w w',H i w w'→w.heap.size≤w'.heap.size
def zqm(P:Program)(i:Nat)(strong:Bool)(o:Oper)(ρ:Operand→Value)(W:World)(val:Nat→Value)(s:SqM H):Prop :=
 match (execOp ρ o).run P W with
 |.ok (.value v) W'=>zji H i strong W W'∧s.p (s.us.map val) (match o.dst with|some _=>v|none=>undef) W'
 |.ok .skip W'=>zji H i strong W W'∧s.p (s.us.map val) undef W'
 |.ok (.enter f args) W'=>Calls P f args W' fun e W''=>∃v,e=.returned v∧zji H i strong W W''∧s.p (s.us.map val) (match o.dst with|some _=>v|none=>undef) W''
 |_=>False
def z32(J:World→Prop)(P:Program)(w:World)(B:Nat)(ls:List Oper)(S:Nat→SqM H)(a:Act)(i:Nat)(strong early jb:Bool)(o:Oper)(s:SqM H):Prop :=
 ∀(val:Nat→Value) (ρ:Operand→Value) (W:World),Below B w W→w.heap.size≤W.heap.size→(∀j∈zhs ls o++s.us,(S j).p ((S j).us.map val) (val j) W)→Holds ls a o val ρ→(early=true→Ext w W)→(jb=true→J W)→zqm P i strong o ρ W val s
theorem zji.below{i B:Nat}{s:Bool}{W W':World}(hH:zt2 H B)(h:zji H i s W W')(hB:B≤W.heap.size):Below B W W':=by
 unfold zji at h;cases s
 ·exact h.mono hB
 ·exact hH.b i W W' hB h
structure zxi(H:Nat→World→World→Prop)(J:World→Prop)(kJ:List Nat):Prop where
 m:∀w w',J w→Ext w w'→J w'
 k:∀k∈kJ,∀w w',J w→H k w w'→J w'
theorem zalg{J:World→Prop}{kJ:List Nat}(hJ:zxi H J kJ){P:Program}{w:World}{B:Nat}{U:List (List Nat)}(hH0:zt2 H B)(hBw:B≤w.heap.size){ls:List Oper}{S:Nat→SqM H}{A:List (List Nat)}{hd:List (List Nat)}{st:List Bool}{a:Act}{Q:Act→World→Prop}(hB:zf7 ls a.tmps.size=true)(hO:zt1 ls A hd st U=true)(hU:∀i,(S i).us=U.getD i [])
  (hhd:∀j k,k∈hd.getD j []→k∈(S j).hard) (hus:∀i o,ls[i]?=some o→∀k∈(S i).us,k∈zae o) (hsl0:st.length=ls.length)
  (hstep:∀i o,ls[i]?=some o→z32 J P w B ls S a i (st.getD i false) ((zbg ls.length A st).getD i false) ((zbg ls.length A (z93 kJ st)).getD i false) o (S i))
  (hend:∀(val:Nat→Value) (W:World),Below B w W→(∀j,j<ls.length→(∀k,k<ls.length→zql A hd st k j=false)→(S j).p ((S j).us.map val) (val j) W)→Q (zam ls val a (List.range ls.length)) W) :
  ∀(fuel:Nat) (listed:Array Bool) (a':Act) (W:World),listed.size=ls.length→(List.range ls.length).countP (fun j=>!listed.getD j false)≤fuel→w.heap.size≤W.heap.size→z3b J kJ w B ls S A hd st a listed a' W →
   wpAnyL P .any ls.toArray Q fuel listed a' W:=by
 simp only[zt1,waw]at hO;obtain⟨hA,hO⟩:=hO;have fin:∀(listed:Array Bool) (a':Act) (W:World),listed.size=ls.length→z3b J kJ w B ls S A hd st a listed a' W→(∀j,j<ls.length→listed.getD j false=true)→Q a' W:=by
  intro listed a' W hs ⟨hE,hc,_,_,val,h1,h2,h3,h4,h5⟩ hall;have e:a'=zam ls val a (List.range ls.length):=by
   refine ztv (by rw[h2,zgh]) (by rw[h3,ziu]) fun s=>?_
   by_cases hx:∃j,j<ls.length∧zaf ls j=some s
   ·obtain⟨j,hj,hd⟩:=hx
    have hj':ls[j]?=some ls[j]:=wcn hj;have hR:=zcq hB hj';have hdst:ls[j].dst=some s:=by unfold zaf at hd;rw[hj']at hd;exact hd
    rw[h4 j s hd (hall j hj),zdb val hd _ _ (fun k hk hd2=>?_) (hR.d s hdst) (.inl (wdz.2 hj))]
    by_cases hkj:k=j
    ·exact hkj
    ·exact absurd hd2 (hR.ne k (wdz.1 hk) hkj s hdst)
   ·rw[h5 s fun j hl hd=>hx ⟨j,?_,hd⟩,zcr ls val _ _ fun j hj hd=>hx ⟨j,wdz.1 hj,hd⟩]
    unfold zaf at hd
    rcases weu j ls.length with hj|hj
    ·exact hj
    ·rw[wco hj]at hd;cases hd
  rw[e];exact hend val W hE fun j hj hk=>h1 j hj (hall j hj) fun k hkl _=>hk k hkl
 have zd6:∀(listed:Array Bool),listed.size=ls.length→Region.ready .any ls.toArray listed=[]→∀j,j<ls.length→listed.getD j false=true:=by
  intro listed hs h0 j
  induction j using Nat.strongRecOn with
  |_ j ih =>
   intro hj;cases hl:listed.getD j false with
   |true=>rfl
   |false =>
    exfalso;have hj':ls[j]?=some ls[j]:=wcn hj;have hR:=zcq hB hj';have hin:j∈Region.ready .any ls.toArray listed:=by
     refine mem_ready.2 ⟨?_,ls[j],by simp[hj],fun e he hb=>?_⟩
     ·have hjs:j<listed.size:=by omega
      simp[hjs]at hl ⊢;exact hl
     ·have hd:e.on∈zae ls[j]:=wdv.2 ⟨e,wds.2 ⟨by simpa using he,hb⟩,rfl⟩
      have hlt:=hR.dep _ hd;exact ih _ hlt (by omega)
    rw[h0]at hin;cases hin
 have step:∀(listed:Array Bool) (a':Act) (W:World) (i:Nat) (K:Act→World→Prop),listed.size=ls.length→w.heap.size≤W.heap.size→z3b J kJ w B ls S A hd st a listed a' W→i∈Region.ready .any ls.toArray listed →
   (∀a2 W2,w.heap.size≤W2.heap.size→z3b J kJ w B ls S A hd st a (listed.setIfInBounds i true) a2 W2→K a2 W2)→zix P ls.toArray i K a' W:=by
  intro listed a' W i K hs hsz0 ⟨hE,hc,hx0,hj0,val,h1,h2,h3,h4,h5⟩ hi hK;obtain⟨hl,o,ho,hdeps⟩:=mem_ready.1 hi;have ho':ls[i]?=some o:=by simpa using ho
  have hilt:i<ls.length:=(wcp.1 ho').1;have hR:=zcq hB ho';have hdl:∀j∈zae o,listed.getD j false=true:=fun j hj=>by
   obtain⟨e,he,rfl⟩:=wdv.1 hj;obtain⟨he1,he2⟩:=wds.1 he;exact hdeps e (by simpa using he1) he2
  have hilf:listed.getD i false=false:=by
   have:i<listed.size:=by omega
   simp[this]at hl ⊢;exact hl
  have hnl:∀{b:Prop},listed.getD i false=true→b:=fun h=>by rw[hilf]at h;cases h
  have hanc:=zp7 hB hA hc;have hev:∀x∈o.op.operands,a'.eval x=(zam ls val a (zae o)).eval x:=fun x hx=>by
   cases x with
   |tmp s =>
    have hh:a'.tmps[s]?=(zam ls val a (zae o)).tmps[s]?:=by
     rcases hR.x s hx with⟨j,hj,hd⟩|hno
     ·have hji:=hR.dep j hj
      have hj':ls[j]?=some (ls[j]'(by omega)):=wcn (by omega);have hRj:=zcq hB hj';have hdst:(ls[j]'(by omega)).dst=some s:=by unfold zaf at hd;rw[hj']at hd;exact hd
      rw[h4 j s hd (hdl j hj),zdb val hd _ _ (fun k hk hd2=>?_) (hRj.d s hdst) (.inl hj)]
      by_cases hkj:k=j
      ·exact hkj
      ·exact absurd hd2 (hRj.ne k (by have:=hR.dep k hk;omega) hkj s hdst)
     ·rw[h5 s fun j hl hd=>?_,zcr ls val _ _ fun j hj=>hno j (by have:=hR.dep j hj;omega)]
      rcases weu j ls.length with hj|hj
      ·exact hno j hj hd
      ·unfold zaf at hd;rw[wco hj]at hd;cases hd
    simp only[Act.eval,wab,hh]
   |_=>rfl
  have hx:=execOp_congr o hR.s hev;have hH:Holds ls a o val (zam ls val a (zae o)).eval:=by
   refine⟨fun j hj t ht=>?_,fun t ht=>?_,fun _=>rfl,fun _=>rfl⟩
   ·have hji:=hR.dep j hj
    have hj':ls[j]?=some (ls[j]'(by omega)):=wcn (by omega);have hRj:=zcq hB hj';have hdst:(ls[j]'(by omega)).dst=some t:=by unfold zaf at ht;rw[hj']at ht;exact ht
    have:=zdb val ht (zae o) a (fun k hk hd2=>by
     by_cases hkj:k=j
     ·exact hkj
     ·exact absurd hd2 (hRj.ne k (by have:=hR.dep k hk;omega) hkj t hdst)) (hRj.d t hdst) (.inl hj)
    simp[Act.eval,this]
   ·have:=zcr ls val (zae o) a (fun j hj=>ht j hj)
    simp only[Act.eval,wab,this]
  have hdepS:∀j∈zhs ls o++(S i).us,(S j).p ((S j).us.map val) (val j) W:=fun j hju=>by
   have hj:j∈zae o:=by
    rcases wdm.1 hju with h|h
    ·exact(wds.1 h).1
    ·exact hus i o ho' j h
   refine h1 j (by have:=hR.dep j hj;omega) (hdl j hj) fun k hk hlk=>?_
   cases hkl:zql A hd st k j with
   |false=>rfl
   |true =>
    have q:=wbk.1 hO i (wdz.2 hilt);rw[ho',←hU i]at q;have q2:=wbk.1 (wbk.1 q j hju) k (wdz.2 hk);rw[hkl]at q2;simp only[wa5,wa1,wa6]at q2
    rcases q2 with q2|q2
    ·have:k=i:=by simpa using q2
     subst this;exact hnl hlk
    ·exact hnl (hanc k hk hlk i (by simpa using q2))
  have hw:=hstep i o ho' val _ W hE hsz0 hdepS hH (fun he=>hx0 fun k hk hlk=>by
   simp only[zbg,wch,wcq,wcr hilt,wfn,wfk]at he;have q:=wbk.1 he k (wdz.2 hk);simp only[wa6,wa3]at q
   rcases q with(q|q)|q
   ·simpa[wch]using q
   ·have:k=i:=by simpa using q
    subst this;exact hnl hlk
   ·exact hnl (hanc k hk hlk i (by simpa[wch]using q))) fun he=>hj0 fun k hk hlk hsk=>by
   simp only[zbg,wch,wcq,wcr hilt,wfn,wfk]at he;have q:=wbk.1 he k (wdz.2 hk);simp only[wa6,wa3]at q
   rcases q with(q|q)|q
   ·have hks:k<st.length:=by omega
    unfold z93 at q;rw[wcq,wcr hks]at q;simp only[wfn,wfk,hsk,wa7,wa2]at q;simpa using q
   ·have:k=i:=by simpa using q
    subst this;exact hnl hlk
   ·exact hnl (hanc k hk hlk i (by simpa[wch]using q))
  have hwant:∀y,Region.wanted o y=true:=fun y=>by simp[Region.wanted,hR.g]
  unfold zix;rw[ho];simp only;rw[if_pos (hwant _)];have hupd:∀(j:Nat) (oj:Oper),ls[j]?=some oj→(listed.getD j false=true∨j=i)→(S j).us.map (fun k=>if k=i then (match o.dst with|some _=>undef|none=>undef)else val k)=(S j).us.map val∧∀u:Value,(S j).us.map (fun k=>if k=i then u else val k)=(S j).us.map val:=fun j oj hj hlj=>by
   have key:∀u:Value,(S j).us.map (fun k=>if k=i then u else val k)=(S j).us.map val:=fun u=>wdf fun k hk=>by
    have hkd:=hus j oj hj k hk;have hkl:listed.getD k false=true:=by
     rcases hlj with h|rfl
     ·exact hc j oj hj h k hkd
     ·rw[ho']at hj;cases hj;exact hdl k hkd
    have:k≠i:=fun e=>by subst e;exact hnl hkl
    rw[if_neg this]
   exact⟨key _,key⟩
  have next:∀v W',zji H i (st.getD i false) W W'→(S i).p ((S i).us.map val) (match o.dst with|some _=>v|none=>undef) W'→K (a'.put o.dst v) W':=fun v W' hE' hS=>by
   have hsz1:W.heap.size≤W'.heap.size:=by
    unfold zji at hE'
    split at hE'
    ·exact hH0.s i _ _ hE'
    ·exact hE'.size
   refine hK _ _ (by omega) ⟨hE.trans (zji.below hH0 hE' (by omega)),fun j oj hj hlj d hd=>?_,fun hns=>?_,fun hns=>?_,fun j=>if j=i then (match o.dst with|some _=>v|none=>undef)else val j,fun j hj hlj hal=>?_,by rw[put_defers,h2],by rw[zjc,h3],fun j s hd hlj=>?_,fun s hno=>?_⟩
   ·by_cases hji:j=i
    ·subst hji
     rw[ho']at hj;cases hj;exact getD_set_true (hdl d hd)
    ·rw[getD_set_ne false (wff hji)]at hlj
     exact getD_set_true (hc j oj hj hlj d hd)
   ·have hst:=hns i hilt (by simp[hs,hilt])
    rw[hst]at hE';exact(hx0 fun k hk hlk=>hns k hk (getD_set_true hlk)).trans' hE'
   ·have hJW:=hj0 fun k hk hlk hsk=>hns k hk (getD_set_true hlk) hsk
    unfold zji at hE'
    split at hE'
    ·rename_i hst
     exact hJ.k i (hns i hilt (by simp[hs,hilt]) hst) _ _ hJW hE'
    ·exact hJ.m _ _ hJW hE'
   ·by_cases hji:j=i
    ·subst hji;rw[(hupd j o ho' (.inr rfl)).2];simp only[if_true];exact hS
    ·rw[getD_set_ne false (wff hji)]at hlj
     rw[(hupd j _ (wcn hj) (.inl hlj)).2];simp only[hji,if_false];have hold:=h1 j hj hlj fun k hk hlk=>hal k hk (getD_set_true hlk)
     have hki:=hal i hilt (by simp[hs,hilt]);cases hst:st.getD i false with
     |false =>
      rw[hst]at hE';exact(S j).m _ _ _ _ hold hE'
     |true =>
      unfold zql at hki;rw[hst]at hki;have hij:(i == j)=false:=by simpa using fun h=>hji h.symm
      rw[hij]at hki;simp only[wa7,wa4,wax,wav,wa2]at hki
      rcases hki with hki|hki
      ·exact(S j).hm i (hhd j i (by simpa using hki)) _ _ _ _ hold (by rw[hst]at hE';exact hE')
      ·exact hnl (hanc j hj hlj i (by simpa using hki))
   ·by_cases hji:j=i
    ·subst hji
     have hdst:o.dst=some s:=by unfold zaf at hd;rw[ho']at hd;exact hd
     simp only[if_true,hdst];exact zr1 _ _ (by rw[h3];exact hR.d s hdst)
    ·rw[getD_set_ne false (wff hji)]at hlj
     simp only[hji,if_false];rw[zf3,h4 j s hd hlj];intro hdst
     rcases weu j ls.length with hj|hj
     ·exact hR.ne j hj hji s hdst hd
     ·unfold zaf at hd;rw[wco hj]at hd;cases hd
   ·have hoi:o.dst≠some s:=by
     have:=hno i (by simp[hs,hilt]);unfold zaf at this;rw[ho']at this;exact this
    rw[zf3 _ _ hoi,h5 s fun j hlj=>hno j (getD_set_true hlj)]
  unfold zqm at hw;unfold zp8;rw[hx];generalize (execOp (zam ls val a (zae o)).eval o).run P W=r at *;cases r with
  |ok x W' =>
   cases x<;>simp only at hw ⊢
   case value v=>exact next v W' hw.1 hw.2
   case skip=>exact next undef W' hw.1 (by cases o.dst<;>exact hw.2)
   case enter f args =>
    refine wa8 hw fun e W'' ⟨v,he,q1,q2⟩=>?_
    subst he;exact⟨v,rfl,next v W'' q1 q2⟩
  |halt x W'=>cases hw
 intro fuel
 induction fuel with
 |zero =>
  intro listed a' W hs hf hz hW;have hall:∀j,j<ls.length→listed.getD j false=true:=fun j hj=>by
   have h0:(List.range ls.length).countP (fun j=>!listed.getD j false)=0:=by omega
   rw[wbt]at h0;have:=h0 j (wdz.2 hj);simpa using this
  refine⟨?_,fin listed a' W hs hW hall⟩
  rcases hr:Region.ready .any ls.toArray listed with _|⟨k,rs⟩
  ·rfl
  ·exfalso
   have hk:k∈Region.ready .any ls.toArray listed:=by rw[hr];simp
   obtain⟨g1,ok,g2,_⟩:=mem_ready.1 hk;have hlt:k<ls.length:=by have:=(wad.1 g2).1;simpa using this
   have hka:=hall k hlt;have:k<listed.size:=by omega
   simp[this]at g1 hka;rw[g1]at hka;cases hka
 |succ fuel ih =>
  intro listed a' W hs hf hz hW;refine⟨fun h0=>fin listed a' W hs hW (zd6 listed hs h0),fun i hi=>?_⟩;refine step listed a' W i _ hs hz hW hi fun a2 W2 hz2 hW2=>ih _ a2 W2 (by simpa using hs) ?_ hz2 hW2
  obtain⟨hl,o,ho,_⟩:=mem_ready.1 hi;have hilt:i<ls.length:=by have:=(wad.1 ho).1;simpa using this
  have his:i<listed.size:=by omega
  have hcnt:=ziv (fun j=>!listed.getD j false) (fun j=>!(listed.setIfInBounds i true).getD j false) i ls.length (fun j hj=>by rw[getD_set_ne false (wff hj)]) (by simp[his]at hl ⊢;exact hl) (by simp[his]) hilt;omega
def zla(J:World→Prop)(P:Program)(w:World)(B:Nat)(ls:List Oper)(S:Nat→SqM H)(a:Act):Nat→List (Bool×Bool×Bool)→List Oper→List (SqM H)→Prop
 |_,_,[],_=>True
 |_,_,_::_,[]=>False
 |_,[],_::_,_::_=>False
 |i,b::bs,o::os,s::ss=>z32 J P w B ls S a i b.1 b.2.1 b.2.2 o s∧zla J P w B ls S a (i+1) bs os ss
theorem zla.at{J:World→Prop}{P:Program}{w:World}{B:Nat}{ls:List Oper}{S:Nat→SqM H}{a:Act}:∀{i:Nat} {st:List (Bool×Bool×Bool)} {os:List Oper} {ss:List (SqM H)},zla J P w B ls S a i st os ss→∀{j:Nat} {o:Oper},os[j]?=some o→z32 J P w B ls S a (i+j) (st.getD j (false,false,false)).1 (st.getD j (false,false,false)).2.1 (st.getD j (false,false,false)).2.2 o (ss.getD j zqk)
 |_,_,[],_,_,j,o,h=>by simp at h
 |_,bs,x::os,[],hs,_,_,_=>by cases bs<;>exact False.elim hs
 |_,[],x::os,s::ss,hs,_,_,_=>False.elim hs
 |i,b::bs,x::os,s::ss,hs,0,o,h=>by
  simp at h;subst h;exact hs.1
 |i,b::bs,x::os,s::ss,hs,j+1,o,h=>by
  have:=zla.at hs.2 (j:=j) (o:=o) (by simpa using h);rw[show i+(j+1)=i+1+j by omega];simpa using this
def z3c(keep:List Bool):List (SqM H)→Nat→(Nat→Value)→World→Prop
 |[],_,_,_=>True
 |s::ss,i,val,W=>(if keep.getD i false then s.p (s.us.map val) (val i) W else True)∧z3c keep ss (i+1) val W
theorem z33{W:World}{val:Nat→Value}{keep:List Bool}:∀(ss:List (SqM H)) (i:Nat),(∀j,j<ss.length→keep.getD (i+j) false=true→(ss.getD j zqk).p ((ss.getD j zqk).us.map val) (val (i+j)) W)→z3c keep ss i val W
 |[],_,_=>trivial
 | s :: ss,i,h=>⟨by
   split
   ·rename_i hk
    have:=h 0 (by simp) (by simpa using hk);simpa using this
   ·trivial,z33 ss (i+1) fun j hj hk=>by
   have:=h (j+1) (by simp;omega) (by rw[←wed,weg];exact hk);rw[wed,wee 1 j];simpa using this⟩
theorem zach{J:World→Prop}{kJ:List Nat}(hJ:zxi H J kJ){P:Program}{Q:Act→World→Prop}{a:Act}{w:World}{ls:List Oper}(B:Nat)(hH0:zt2 H B)(hBw:B≤w.heap.size)(hJw:J w)(S:List (SqM H))(hd:List (List Nat))(st keep ea eb:List Bool)(hB:zf7 ls a.tmps.size=true)
  (U:List (List Nat)) (hUL:S.map (·.us)=U) (hO:zt1 ls (za4 ls) hd st U=true) (hK:z92 ls.length (za4 ls) hd st=keep) (hEa:zbg ls.length (za4 ls) st=ea) (hEb:zbg ls.length (za4 ls) (z93 kJ st)=eb) (hsl:st.length=ls.length) (hhd:S.map (·.hard)=hd∧usBM ls S=true)
  (hstep:zla J P w B ls (fun i=>S.getD i zqk) a 0 (st.zip (ea.zip eb)) ls S)
  (D:List (Option Tmp)) (hDs:ls.map (·.dst)=D) (hlen:S.length=ls.length)
  (hend:∀(val:Nat→Value) (W:World),Below B w W→w.heap.size≤W.heap.size→z3c keep S 0 val W→Q (za9 D 0 val a) W) :
  wpAnyL P .any ls.toArray Q ls.toArray.size (Array.replicate ls.toArray.size false) a { w with drawn:=w.drawn+1 }:=by
 have hend:∀(val:Nat→Value) (W:World),Below B w W→(∀j,j<ls.length→(∀k,k<ls.length→zql (za4 ls) hd st k j=false)→(S.getD j zqk).p ((S.getD j zqk).us.map val) (val j) W)→Q (zam ls val a (List.range ls.length)) W:=fun val W hE hS=>by
  rw[wd5,ziw ls 0 a (fun j o hj=>by rw[wfc];unfold zaf;rw[hj];rfl),hDs];refine hend val W hE hE.size (z33 S 0 fun j hj hk=>?_);rw[wfc]at hk ⊢;refine hS j (by omega) fun k hkl=>?_
  rw[←hK]at hk;unfold z92 at hk;have hjl:j<ls.length:=by omega
  simp only[wch,wcq,wcr hjl,wfn,wfk]at hk;have:=wbk.1 hk k (wdz.2 hkl);simpa using this
 refine zalg (J:=J) (kJ:=kJ) hJ (A:=za4 ls) (hd:=hd) (st:=st) hH0 hBw (S:=fun i=>S.getD i zqk) hB hO (fun i=>by
   rw [← hUL];simp only [wch,wcq];cases S[i]?<;>rfl) (fun j k hj=>?_) (fun i o hi k hk=>by
   have h1:=wbk.1 hhd.2 i (wdz.2 (wcp.1 hi).1);rw[hi]at h1;have h2:=wbk.1 h1 k hk;simpa using h2) hsl (fun i o hi=>?hst) hend _ _ _ _ (by simp) ?_ (weq _) ⟨Below.drew (Below.refl _ _),fun j o _ hl=>?_,fun _=>Ext.dr (Below.refl _ _),fun _=>hJ.m _ _ hJw (Ext.dr (Below.refl _ _)),fun _=>undef,fun j _ hl=>?_,rfl,rfl,fun j s _ hl=>?_,fun _ _=>rfl⟩
 ·rw[←hhd.1]at hj
  rcases weu j S.length with h|h
  ·simpa[wch,h]using hj
  ·simp[h]at hj
 ·have h1:=hstep.at hi
  have hil:i<ls.length:=(wcp.1 hi).1;have hel:ea.length=ls.length:=by rw[←hEa];simp[zbg]
  have hbl:eb.length=ls.length:=by rw[←hEb];simp[zbg]
  have hz:(st.zip (ea.zip eb)).getD i (false,false,false)=(st.getD i false,ea.getD i false,eb.getD i false):=by
   simp only[wch,wcn (show i<(st.zip (ea.zip eb)).length by simp;omega),wcn (show i<eb.length by omega),wcn (show i<st.length by omega),wcn (show i<ea.length by omega),wfk,wc1]
  rw[hz,wfc]at h1;rw[hEa,hEb];exact h1
 ·have:=wbv (p:=fun j=>!((Array.replicate ls.toArray.size false).getD j false)) (l:=List.range ls.length)
  simpa using this
 ·rw[zaw]at hl;cases hl
 ·rw[zaw]at hl;cases hl
 ·rw[zaw]at hl;cases hl
theorem zii{J:World→Prop}{kJ:List Nat}(hJ:zxi H J kJ){P:Program}{id:Nat}{Q:Exit→Act→World→Prop}{a:Act}{w:World}{ls tl:List Oper}(k:Nat)(htl:ls.drop k=tl)(hT:zxa .any (ls.take k) tl=true)
  (B:Nat) (hH0:zt2 H B) (hBw:B≤w.heap.size) (hJw:J w) (S:List (SqM H)) (hd:List (List Nat)) (st keep ea eb:List Bool) (hm:P.follows .mixedOrders=true) (hB:zf7 (ls.take k) a.tmps.size=true)
  (U:List (List Nat)) (hUL:S.map (·.us)=U) (hO:zt1 (ls.take k) (za4 (ls.take k)) hd st U=true) (hK:z92 (ls.take k).length (za4 (ls.take k)) hd st=keep) (hEa:zbg (ls.take k).length (za4 (ls.take k)) st=ea) (hEb:zbg (ls.take k).length (za4 (ls.take k)) (z93 kJ st)=eb) (hsl:st.length=(ls.take k).length) (hhd:S.map (·.hard)=hd∧usBM (ls.take k) S=true)
  (hstep:zla J P w B (ls.take k) (fun i=>S.getD i zqk) a 0 (st.zip (ea.zip eb)) (ls.take k) S)
  (D:List (Option Tmp)) (hDs:(ls.take k).map (·.dst)=D) (hlen:S.length=(ls.take k).length)
  (hend:∀(val:Nat→Value) (W:World),Below B w W→w.heap.size≤W.heap.size→z3c keep S 0 val W→wpList P ls.toArray Q tl (za9 D 0 val a) W) :
  (Code.region id ls.toArray true).wp P Q a w:=by
 subst htl;refine wp_region_any hm ?_
 have h:=zu9 (P:=P) (ops:=ls.toArray) (Q:=Q) (a:=a) (w:={ w with drawn:=w.drawn+1 }) (ls.drop k) (ls.take k) hT;rw[web]at h;refine h ?_
 have h5:=zfk (Q:=Exit.then (fun a w=>wpList P ls.toArray Q (ls.drop k) a w) Q) _ _ _ _ (zach hJ (Q:=fun a w=>wpList P ls.toArray Q (ls.drop k) a w) B hH0 hBw hJw S hd st keep ea eb hB U hUL hO hK hEa hEb hsl hhd hstep D hDs hlen hend);simpa using h5
end
section
variable{H:Nat→World→World→Prop}{P:Program}{i:Nat}{strong:Bool}{o:Oper}{ρ:Operand→Value}{W:World}{val:Nat→Value}{s:SqM H}
theorem zbe{v:Value}{W':World}(h:(execOp ρ o).run P W=.ok (.value v) W')(he:zji H i strong W W')(hs:s.p (s.us.map val) (match o.dst with|some _=>v|none=>undef) W'):zqm P i strong o ρ W val s:=by
 unfold zqm;rw[h];exact⟨he,hs⟩
theorem zhv(x y:Operand){t ty:TypeId}(h:o.op=.call { callee:=.builtin .append,args:=#[x,y],argTypes:=#[t,t] })(hty:o.type=ty)(xv yv:Value)(hx:ρ x=xv)(hy:ρ y=yv){v:Value}{W':World}(hr:(Builtin.append_ #[t,t] ty #[xv,yv]).run P W=.ok v W')
  (he:zji H i strong W W') (hs:s.p (s.us.map val) (match o.dst with|some _=>v|none=>undef) W'):zqm P i strong o ρ W val s:=by
 refine zbe (v:=v) (W':=W') ?_ he hs;unfold execOp;simp only[h,resolve,invoke,builtin,wfr,wfs,wfq,wdl,wdg,wdj,hx,hy,hty,hr]
end
def zga(x:Int):Value:=.int .i64 x
theorem zaid(b:Bool)(n:Nat)(x:Int)(w:World):(Instr.checkKey b (n+1) 2 (zga x)).run Tryz.prog w=.ok () w:=by
 unfold zga;rw[Instr.checkKey];simp[go_sem]
theorem z34(k:Int):∀(l:za3 Int Int) (i:Nat),Instr.findNow (TypeDesc.int .i64) (zga k) (l.map (zbi zga zga)) i=some (zb4 zga k l i)
 |[],i=>rfl
 |e::l,i=>by
  have ih:=z34 k l (i+1);rw[wdg];simp only[Instr.findNow,zbi,zga,Instr.sameNow,zb4]at ih ⊢
  by_cases h:e.1=k
  ·subst h;simp
  ·have h1:(k == e.1)=false:=beq_false_of_ne fun hh=>h hh.symm
   simp only[h1,h,if_false,if_true];exact ih
theorem zzk:Keyed Tryz.prog 154 2 3 zga zga where
 und:=by kernel_rfl
 chk:=fun b k w=>zaid b 9999 k w
 find:=fun k l w=>by
  simp only[Instr.findKey,wfr,Tryz.runUnderlying2,wfq,z34];rfl
 stay:=fun k=>by
  have:∀n:Nat,Instr.sameBits (n+1) (zga k) (zga k)=true:=fun n=>by simp[Instr.sameBits,zga]
  exact this 9999
theorem zalh(w:World):(zeroValue 3).run Tryz.prog w=.ok (.int .i64 0) w:=by simp[go_sem]
def zcx (W:World)(db dn:Nat):Prop:=∃cur:Array Value,W.heap[db]?=some (.cells cur 2 (0,0))∧dn≤cur.size∧∀j,j<dn→∃x:Int,cur[j]?=some (.int .i64 x)
theorem zcx.lt{W:World}{db dn:Nat}(h:zcx W db dn):db<W.heap.size:=by
 obtain⟨cur,h1,_⟩:=h;exact(wad.1 h1).1
theorem zcx.at{W:World}{db dn:Nat}(h:zcx W db dn){j:Nat}(hj:j<dn):∃x:Int,W.cell? ⟨db,j,none⟩=some (.int .i64 x):=by
 obtain⟨cur,h1,_,h2⟩:=h;obtain⟨x,hx⟩:=h2 j hj;exact⟨x,by rw[cell_of_row _ _ _ _ _ _ h1];exact hx⟩
theorem zcx.free{W:World}{db dn:Nat}(h:zcx W db dn)(o:Nat):W.frozen? ⟨db,o,none⟩=false:=by
 obtain⟨cur,h1,_⟩:=h;simp[World.frozen?,h1]
theorem zcx.same{W W':World}{db dn:Nat}(h:zcx W db dn)(e:W'.heap[db]?=W.heap[db]?):zcx W' db dn:=by
 obtain⟨cur,h1,h2⟩:=h;exact⟨cur,e.trans h1,h2⟩
theorem zcx.set{W:World}{db dn:Nat}(h:zcx W db dn){j:Nat}(hj:j<dn)(x:Int):zcx (W.setCell ⟨db,j,none⟩ (.int .i64 x)) db dn:=by
 obtain⟨cur,h1,h2,h3⟩:=h;refine⟨_,zal h1 _ _,by simpa using h2,fun i hi=>?_⟩
 by_cases e:i=j
 ·subst e
  exact⟨x,zw7 _ (by omega)⟩
 ·obtain⟨y,hy⟩:=h3 i hi
  exact⟨y,by rw[z7o _ (fun e'=>e e'.symm)];exact hy⟩
structure zxj(S:Nat→Prop)(W:World)(na:Option Addr)(nc:Nat)(vs:List (Value×List Int)):Prop where
 rows:zao W 1 (.slice na vs.length nc) (vs.map fun x=>[x.1])
 own:∀b off,na=some ⟨b,off,none⟩→S b
 each:∀x∈vs,∃xa xc,x.1=.slice xa x.2.length xc∧zo W .i64 (.slice xa x.2.length xc) x.2∧∀b off,xa=some ⟨b,off,none⟩→S b
theorem z04{S:Nat→Prop}{W W':World}{sz:Nat}{sa:Option Addr}{n c:Nat}{l:List (List Value)}(h:zao W sz (.slice sa n c) l)(hk:Kept S W W')(hs:∀b off,sa=some ⟨b,off,none⟩→S b):zao W' sz (.slice sa n c) l:=by
 obtain⟨_,_,e,h1,h2,h3⟩:=h;cases e;refine⟨_,_,rfl,h1,h2,?_⟩
 rcases h3 with h3|⟨b,off,rfl,h3⟩
 ·exact .inl h3
 ·exact .inr ⟨b,off,rfl,fun i hi j hj=>hk.cell (h3 i hi j hj) (hs b off rfl)⟩
theorem zxj.kept{S:Nat→Prop}{W W':World}{na:Option Addr}{nc:Nat}{vs:List (Value×List Int)}(h:zxj S W na nc vs)(k:Kept S W W'):zxj S W' na nc vs :=
 ⟨z04 h.rows k h.own,h.own,fun x hx=>by
  obtain⟨xa,xc,h1,h2,h3⟩:=h.each x hx;exact⟨xa,xc,h1,zgl h2 k h3,h3⟩⟩
def zbw(W:World)(cb p:Nat)(cv sv nv dv:Value):Prop:=W.heap[cb]?=some (.cells #[.pointer (some ⟨p,0,none⟩),cv,sv,nv,dv] 109 (0,0))
theorem zbw.lt{W:World}{cb p:Nat}{cv sv nv dv:Value}(h:zbw W cb p cv sv nv dv):cb<W.heap.size:=(wad.1 h).1
theorem zbw.cells{W:World}{cb p:Nat}{cv sv nv dv:Value}(h:zbw W cb p cv sv nv dv):W.cell? ⟨cb,0,none⟩=some (.pointer (some ⟨p,0,none⟩))∧W.cell? ⟨cb,1,none⟩=some cv∧W.cell? ⟨cb,2,none⟩=some sv∧W.cell? ⟨cb,3,none⟩=some nv∧W.cell? ⟨cb,4,none⟩=some dv:=by
 refine⟨?_,?_,?_,?_,?_⟩<;>(rw[cell_of_row _ _ _ _ _ _ h];rfl)
theorem zbw.ext{W W':World}{cb p:Nat}{cv sv nv dv:Value}(h:zbw W cb p cv sv nv dv)(e:Ext W W'):zbw W' cb p cv sv nv dv:=(e.block _ h.lt).trans h
theorem z94(cb p db dn dc:Nat)(cv sv nv:Value)(x:Int)(w:World)(h:zbw w cb p cv sv nv (.slice (some ⟨db,0,none⟩) dn dc))(hd:zcx w db dn)(hdn:dn≤1000) :
  Calls Tryz.prog 159 #[.pointer (some ⟨cb,0,none⟩),.int .i64 x] w fun e w'=>∃r:Int,e=.returned (.int .i64 r)∧Ext w w'∧(r=-1∨∃k:Nat,r=(k:Int)∧k<dn):=by
 obtain⟨-,-,-,-,k4⟩:=h.cells;have HD:=hid hd;have zc:=wfu _ _ k4;simp only at zc;clear h hd
 go_enter Tryz.func159,Tryz.ntmps159
 go_wp2_with fail
 go_loopw [12] (fun iv W=>∃k:Nat,k≤dn∧iv=.int .i64 k∧Ext w W) (fun iv _=>dn-(intOf iv).toNat)
 case atStart=>exact⟨0,by omega,rfl,by exact xx⟩
 case round =>
  obtain⟨k,hk,rfl,hE⟩:=hrel;have HE:=hid hE;clear hE
  by_cases hlt:k<dn
  ·have hki:(k:Int)<(dn:Int):=by omega
   obtain⟨y,hy⟩:=HD.out.at hlt;replace hy:=zh HE.out hy;have zd:=wfu _ _ hy;simp only at zd
   by_cases hyx:y=x
   ·subst hyx
    go_wp2_with fail;go_ret;exact⟨_,rfl,HE.out,.inr ⟨k,rfl,hlt⟩⟩
   ·have hyb:decide (y=x)=false:=decide_eq_false hyx
    go_wp2_with fail;exact⟨⟨k+1,by omega,by go_num,HE.out⟩,by simp[intOf];omega⟩
  ·have hki:¬((k:Int)<(dn:Int)):=by omega
   go_wp2_with fail;go_ret;exact⟨-1,rfl,HE.out,.inl rfl⟩
end Go.Proofs.YtdcnbeehckgpcaaGreat
namespace Go.Proofs.YtdcnbeehckgpcaaGreat
open Go.Lib (hid)
open Go.RowKit Go.Shelf
attribute [local go_sem] Oper.semAt_some
def zhw(U:List Int)(F:Int→Option Int):Nat:=U.countP fun x=>(F x).isNone
def OneF(F:Int→Option Int):Prop:=∀x v,F x=some v→v=1
def zxk(F G:Int→Option Int):Prop:=∀x,(F x).isSome=true→(G x).isSome=true
theorem z05{U:List Int}{F G:Int→Option Int}(h:zxk F G):zhw U G≤zhw U F:=by
 unfold zhw;refine wbw fun x _ hx=>?_
 cases hf:F x with
 |none=>rfl
 |some v =>
  have:=h x (by rw[hf];rfl);cases hg:G x with
  |none=>rw[hg]at this;cases this
  |some u=>rw[hg]at hx;cases hx
theorem z06{F:Int→Option Int}{y v:Int}(hy:F y=none):∀{U:List Int},y∈U→zhw U (fun k=>if k=y then some v else F k)<zhw U F
 |x::U,h=>by
  have hm:zxk F (fun k=>if k=y then some v else F k):=fun k hk=>by
   by_cases e:k=y
   ·simp[e]
   ·simpa[e]using hk
  have h0:=z05 (U:=U) hm;unfold zhw at h0 ⊢;rw[wbs,wbs]
  dsimp only at h0 ⊢
  by_cases e:x=y
  ·subst e
   simp only[hy,if_true,Option.isNone_some,Option.isNone_none];simp only[waz,if_false];omega
  ·have hu:y∈U:=by
    rcases wdp.1 h with h|h
    ·exact absurd h.symm e
    ·exact h
   have ih:=z06 (v:=v) hy hu;unfold zhw at ih
   dsimp only at ih
   simp only[e,if_false];omega
structure zqn(w:World)(db dn mb:Nat)(F:Int→Option Int)(W:World):Prop where
 k:Kept (fun k=>k≠db∧k≠mb) w W
 p:zcx W db dn
 m:∃G,zbo zga zga W mb G∧OneF G∧zxk F G
theorem zqn.trans{w W W':World}{db dn mb:Nat}{F G:Int→Option Int}(h:zqn w db dn mb F W)(hm:zxk F G)(h2:zqn W db dn mb G W'):zqn w db dn mb F W':=by
 obtain⟨H,a,b,c⟩:=h2.m;exact⟨h.k.trans h2.k,h2.p,H,a,b,fun x hx=>c x (hm x hx)⟩
def PayE(w:World)(db dn mb:Nat)(F:Int→Option Int)(e:Ending)(W:World):Prop:=∃b:Bool,e=.returned (.bool b)∧zqn w db dn mb F W
theorem zaie(cb p db dn dc mb:Nat)(cv sv:Value)(na:Option Addr)(nc:Nat)(vs:List (Value×List Int))(hlen:vs.length=dn)(hdn:dn≤1000)(hl:∀x∈vs,x.2.length≤1000)(n1:cb≠db)(n2:cb≠mb)(n3:db≠mb) :
  ∀(f n:Nat) (F:Int→Option Int) (w:World),n<dn→zhw (vs.flatMap (·.2)) F<f→zbw w cb p cv sv (.slice na vs.length nc) (.slice (some ⟨db,0,none⟩) dn dc)→zxj (fun k=>k≠db∧k≠mb) w na nc vs→zcx w db dn→zbo zga zga w mb F→OneF F →
  Calls Tryz.prog 106 #[.pointer (some ⟨cb,0,none⟩),.int .i64 n,.map (some mb)] w (PayE w db dn mb F):=by
 intro f
 induction f with
 |zero =>
  intro n F w hn hf hc hv hp hm h1;exact absurd hf (Nat.not_lt_zero _)
 |succ f ih =>
  intro n F w hn hf hc hv hp hm h1;have hnv:n<vs.length:=by omega
  have hni:(n:Int)<(vs.length:Int):=by omega
  obtain⟨xa,xc,hx1,hx2,hx3⟩:=hv.each vs[n] (wcy hnv);have hsub:∀y∈vs[n].2,y∈vs.flatMap (·.2):=fun y hy=>wdt.2 ⟨vs[n],wcy hnv,hy⟩
  have hll:=hl vs[n] (wcy hnv);obtain⟨nb,no,rfl,hcn⟩:∃nb no,na=some ⟨nb,no,none⟩∧w.cell? ⟨nb,no+n,none⟩=some (.slice xa vs[n].2.length xc):=by
   obtain⟨_,_,e0,-,-,hcc⟩:=hv.rows;simp only[wc8,wft]at e0;obtain⟨rfl,-,rfl⟩:=e0
   rcases hcc with h0|⟨nb,no,rfl,hcc⟩
   ·have:vs.length=0:=by simpa using congrArg List.length h0
    omega
   ·refine⟨nb,no,rfl,?_⟩
    have:=hcc n (by simpa using hnv) 0 (by simp);simpa[hx1]using this
  obtain⟨ls,hls⟩:∃ls,ls=vs[n].2:=⟨_,rfl⟩
  rw[←hls]at hx2 hsub hcn hll;obtain⟨-,-,-,k3,k4⟩:=hc.cells;have HC:=hid hc;have HV:=hid hv;have HP:=hid hp;have HM:=hid hm;have H1:=hid h1;have HX2:=hid hx2;have HX3:=hid hx3;have HSUB:=hid hsub;have HF:=hid hf;have HIH:=hid ih;have zc:=wfu _ _ k3;have zn:=wfu _ _ hcn;simp only at zc zn;clear hc hv hp hm h1 hx1 hx2 hx3 hsub hls hf ih
  go_enter Tryz.func106,Tryz.ntmps106
  go_wp2_with fail
  go_loopw [18] (fun iv W=>∃(j:Nat),j≤ls.length∧iv=.int .i64 j∧zqn w db dn mb F W) (fun iv _=>ls.length-(intOf iv).toNat)
  case atStart=>exact⟨0,by omega,rfl,(Kept.refl _ w).trans (Kept.of_below (by exact xx)),HP.out.same rfl,F,HM.out.of_heap rfl,H1.out,fun x h=>h⟩
  case round =>
   obtain⟨j,hj,rfl,hq⟩:=hrel;obtain⟨X,rfl⟩:∃X,X=wr:=⟨_,rfl⟩
   have HQ:=hid hq
   by_cases hlt:j<ls.length
   ·have hji:(j:Int)<(ls.length:Int):=by omega
    obtain⟨xb,xo,rfl,hy⟩:∃xb xo,xa=some ⟨xb,xo,none⟩∧X.cell? ⟨xb,xo+j,none⟩=some (.int .i64 ls[j]):=by
     obtain⟨_,_,e0,-,-,hcc⟩:=(zgl HX2.out hq.k HX3.out).spec;cases e0
     rcases hcc with h0|⟨xb,xo,rfl,hcc⟩
     ·rw[h0]at hlt;simp at hlt
     ·exact⟨xb,xo,rfl,hcc j hlt⟩
    obtain⟨G,hG,h1G,hmG⟩:=hq.m;have hyu:=HSUB.out ls[j] (wcy hlt);obtain⟨y,hyy⟩:∃y,y=ls[j]:=⟨_,rfl⟩
    rw[←hyy]at hy hyu;have zx:=wfu _ _ hy;simp only at zx;clear hq hyy;cases hGy:G y with
    |some v =>
     have hv1:=h1G y v hGy;subst hv1;have hlk:(Instr.lookup 154 (.map (some mb)) (.int .i64 y) false).run Tryz.prog X=.ok (.int .i64 1) X:=hG.look zzk y hGy;clear hG h1G hmG hGy hyu;go_wp2_with fail;exact⟨⟨j+1,by omega,by go_num,HQ.out⟩,by simp[intOf];omega⟩
    |none =>
     have hlk:(Instr.lookup 154 (.map (some mb)) (.int .i64 y) false).run Tryz.prog X=.ok (.int .i64 0) X:=by
      obtain⟨es,c,q1,q2,q3,q4⟩:=hG;exact zv2 zzk q1 y ((q4 y).trans hGy) zalh
     obtain⟨X2,hup,hg,hsz,hm2⟩:=hG.upd zzk y 1;have hup:(Instr.mapUpdate 154 (.map (some mb)) (.int .i64 y) (.int .i64 1)).run Tryz.prog X=.ok () X2:=hup;have hk2:Kept (fun k=>k≠db∧k≠mb) w X2:=HQ.out.k.grown hg (fun k hk _ hh=>by cases hk;exact hh.2 rfl);have hp2:zcx X2 db dn:=HQ.out.p.same (((Kept.refl (fun k=>k≠mb) X).grown hg (fun k hk _ hh=>by cases hk;exact hh rfl)).same db HQ.out.p.lt n3);have hc2:zbw X2 cb p cv sv (.slice (some ⟨nb,no,none⟩) vs.length nc) (.slice (some ⟨db,0,none⟩) dn dc):=(hk2.same cb HC.out.lt ⟨n1,n2⟩).trans HC.out;have h12:OneF (fun k=>if k=y then some 1 else G k):=fun k v hk=>by
      by_cases e:k=y
      ·simp[e]at hk;exact hk.symm
      ·simp[e]at hk;exact h1G k v hk
     have hm12:zxk F (fun k=>if k=y then some 1 else G k):=fun k hk=>by
      by_cases e:k=y
      ·simp[e]
      ·simpa[e]using hmG k hk
     have hun:zhw (vs.flatMap (·.2)) (fun k=>if k=y then some 1 else G k)<f:=by
      have q1:=z06 (v:=1) hGy hyu;have q2:=z05 (U:=vs.flatMap (·.2)) hmG;have q3:=HF.out;omega
     obtain⟨F2,hF2⟩:∃F2:Int→Option Int,F2=(fun k=>if k=y then some 1 else G k):=⟨_,rfl⟩
     rw[←hF2]at h12 hm12 hun hm2;have HK2:=hid hk2;have HP2:=hid hp2;have HC2:=hid hc2;have H12:=hid h12;have HM12:=hid hm12;have HUN:=hid hun;have HM2:=hid hm2;obtain⟨-,-,-,k3,k4⟩:=hc2.cells;have zc:=wfu _ _ k3;simp only at zc;clear hk2 hp2 hc2 h12 hm12 hun hm2 hF2 hG h1G hmG hGy hyu hg hsz;go_wp2_with fail;refine(z94 cb p db dn dc cv sv (.slice (some ⟨nb,no,none⟩) vs.length nc) y X2 HC2.out HP2.out hdn).mono ?_
     rintro e X3 ⟨r,rfl,hE3,hr⟩;have HE3:=hid hE3;have HC3:=hid (HC2.out.ext hE3);have HP3:=hid (HP2.out.same (hE3.block _ HP2.out.lt));have HM3:=hid (HM2.out.ext hE3);have hk3:=HK2.out.trans (Kept.of_below hE3);have HK3:=hid hk3;have hcan3:=HV.out.kept hk3;have HV3:=hid hcan3;obtain⟨-,-,-,k3,k4⟩:=HC3.out.cells;have zc:=wfu _ _ k3;simp only at zc;have zd:=HP3.out.lt;obtain⟨z,hz⟩:=HP3.out.at hn;have fz:=HP3.out.free n;have hndi:(n:Int)<(dn:Int):=by omega
     clear hE3 hk3 hcan3
     rcases hr with rfl|⟨h,rfl,hh⟩
     ·go_wp2_with fail
      go_ret;refine⟨true,rfl,HK3.out.setCell (fun _ hs=>hs.1 rfl) _,HP3.out.set hn y,F2,HM3.out.of_heap (Below.heap_setCell _ _ _ _ (fun e=>n3 e.symm)),H12.out,HM12.out⟩
     ·have hh0:¬((h:Int)<0):=by omega
      go_wp2_with fail;refine(HIH.out h F2 X3 hh HUN.out HC3.out HV3.out HP3.out HM3.out H12.out).mono ?_
      rintro e X4 ⟨b,rfl,hq4⟩;have HQ4:=hid hq4;have hq5:zqn w db dn mb F X4:=⟨HK3.out.trans hq4.k,hq4.p,by obtain⟨H,a,b,c⟩:=hq4.m;exact⟨H,a,b,fun x hx=>c x (HM12.out x hx)⟩⟩
      have HQ5:=hid hq5;have hc4:zbw X4 cb p cv sv (.slice (some ⟨nb,no,none⟩) vs.length nc) (.slice (some ⟨db,0,none⟩) dn dc):=(hq4.k.same cb HC3.out.lt ⟨n1,n2⟩).trans HC3.out;obtain⟨-,-,-,k3,k4⟩:=hc4.cells;have zc:=wfu _ _ k3;simp only at zc;have zd:=hq4.p.lt;obtain⟨z,hz⟩:=hq4.p.at hn;have fz:=hq4.p.free n;clear hq4 hq5 hc4;cases b
      ·go_wp2_with fail
       exact⟨⟨j+1,by omega,by go_num,HQ5.out⟩,by simp[intOf];omega⟩
      ·go_wp2_with fail
       go_ret;obtain⟨H,a1,a2,a3⟩:=HQ5.out.m;exact⟨true,rfl,HQ5.out.k.setCell (fun _ hs=>hs.1 rfl) _,HQ5.out.p.set hn y,H,a1.of_heap (Below.heap_setCell _ _ _ _ (fun e=>n3 e.symm)),a2,a3⟩
   ·have hji:¬((j:Int)<(ls.length:Int)):=by omega
    clear hq;go_wp2_with fail;go_ret;exact⟨false,rfl,HQ.out⟩
end Go.Proofs.YtdcnbeehckgpcaaGreat
namespace Go.Proofs.YtdcnbeehckgpcaaGreat
open Go.Lib (hid)
open Go.RowKit Go.Shelf
def MK(w W:World)(mb:Nat):Prop:=Kept (fun b=>b<w.heap.size∧b≠mb) w W
theorem MK.refl(w:World)(mb:Nat):MK w w mb:=Kept.refl _ _
theorem MK.trans{a b c:World}{mb:Nat}(h:MK a b mb)(k:MK b c mb):MK a c mb:=by
 have h1:=h.size;exact Kept.trans h (k.mono fun j hj hs=>⟨by omega,hs.2⟩)
theorem MK.ext{a b c:World}{mb:Nat}(h:MK a b mb)(e:Ext b c):MK a c mb:=Kept.trans h ((Kept.of_below e).mono fun _ _ _=>trivial)
theorem MK.of{w W:World}{mb:Nat}{S:Nat→Prop}(k:Kept S w W)(h:∀b,b<w.heap.size→b≠mb→S b):MK w W mb:=k.mono fun b _ hb=>h b hb.1 hb.2
theorem zln{w:World}{mb:Nat}{M:zl}(hm:zan w mb M){b:Nat}{cur:Array Value}{t:TypeId}(h:w.heap[b]?=some (.cells cur t (0,0))):b≠mb:=by
 obtain⟨F,⟨es,c,hh,-⟩,-⟩:=hm;intro e;subst e;unfold IsMap at hh;rw[h]at hh;cases hh
theorem znk{w W:World}{mb:Nat}{M:zl}(hm:zan w mb M)(k:MK w W mb){sz:Nat}{v:Value}{l:List (List Value)}(h:zao w sz v l):zao W sz v l:=by
 obtain⟨sa,cap,e,h1,h2,h3⟩:=h;refine⟨sa,cap,e,h1,h2,?_⟩
 rcases h3 with h3|⟨b,off,rfl,h3⟩
 ·exact .inl h3
 ·refine .inr ⟨b,off,rfl,fun i hi j hj=>?_⟩
  have hc:=h3 i hi j hj;refine k.cell hc ⟨wfu _ _ hc,fun e=>?_⟩;simp only at e;subst e;rw[map_cell hm]at hc;cases hc
theorem zab.mk{w W:World}{mb:Nat}{M:zl}(hm:zan w mb M)(k:MK w W mb){B:Nat}{e:TypeId}{sz:Nat}{v:Value}{rows:List (List Value)}(h:zab w B e sz v rows):zab W B e sz v rows :=
 h.keptAt k fun _ _ _ hv hg=>⟨(h.notOwn _ hv).2,zln hm hg⟩
structure zgd(W:World)(ca:Option Addr)(cc:Nat)(cs:List (Value×List Nat)):Prop where
 rows:zao W 1 (.slice ca cs.length cc) (cs.map fun x=>[x.1])
 each:∀x∈cs,∃xa xc,x.1=.slice xa x.2.length xc∧zo W .i64 (.slice xa x.2.length xc) (zy x.2)
theorem zgd.mk'{w W:World}{mb:Nat}{M:zl}(hm:zan w mb M)(k:MK w W mb){ca:Option Addr}{cc:Nat}{cs:List (Value×List Nat)}(h:zgd w ca cc cs):zgd W ca cc cs :=
 ⟨znk hm k h.rows,fun x hx=>by
  obtain⟨xa,xc,h1,h2⟩:=h.each x hx;exact⟨xa,xc,h1,znk hm k h2⟩⟩
theorem zgd.ext{w W:World}(e:Ext w W){ca:Option Addr}{cc:Nat}{cs:List (Value×List Nat)}(h:zgd w ca cc cs):zgd W ca cc cs :=
 ⟨zao.ext e h.rows,fun x hx=>by
  obtain⟨xa,xc,h1,h2⟩:=h.each x hx;exact⟨xa,xc,h1,h2.ext e⟩⟩
theorem zgd.cell{w:World}{ca:Option Addr}{cc:Nat}{cs:List (Value×List Nat)}(h:zgd w ca cc cs){k:Nat}(hk:k<cs.length):∃b off,ca=some ⟨b,off,none⟩∧∀k,(hk:k<cs.length)→w.cell? ⟨b,off+k,none⟩=some cs[k].1:=by
 obtain⟨_,_,e0,-,-,hc⟩:=h.rows;simp only[wc8,wft]at e0;obtain⟨rfl,-,rfl⟩:=e0
 rcases hc with h0|⟨b,off,rfl,hc⟩
 ·have:cs.length=0:=by simpa using congrArg List.length h0
  omega
 ·refine⟨b,off,rfl,fun k hk=>?_⟩
  have:=hc k (by simpa using hk) 0 (by simp);simpa using this
theorem zc6.mk'{w W:World}{p mb:Nat}{M:zl}{ka sa:Option Addr}{kc sc:Nat}(h:zc6 w p M ka sa kc sc mb)(k:MK w W mb)(hm:zan W mb M):zc6 W p M ka sa kc sc mb :=
 h.kept k (fun _ h1 h2=>⟨h1,h2⟩) hm
def zbf(M:zl)(ss:List Nat):zl:=⟨M.L,M.n,M.ks,M.rest,ss⟩
theorem zgo(M:zl)(ss:List Nat):zda M (zbf M ss):=⟨rfl,rfl,rfl,rfl⟩
structure zlo(w:World)(mb cb p:Nat)(M:zl)(cv sv:Value)(k:Nat)(nv dv:Value)(vs:List (Value×List Int))(ds:List Int)(W:World):Prop where
 kp:MK w W mb
 m1:zan W mb M
 c:zbw W cb p cv sv nv dv
 lo:w.heap.size≤cb
 nl:vs.length=k
 dl:ds.length=k
 n:zab W w.heap.size 107 1 nv (vs.map fun x=>[x.1])
 e:∀x∈vs,zab W w.heap.size 2 1 x.1 (x.2.map zas)∧x.2.length≤1000
 d:zab W w.heap.size 2 1 dv (ds.map zas)
 far:∀x∈vs,∀g,x.1.ownBlock=some g→dv.ownBlock≠some g
theorem zlo.next{w X W:World}{mb cb p:Nat}{M:zl}{cv sv:Value}{k:Nat}{nv dv:Value}{vs:List (Value×List Int)}{ds:List Int}(h:zlo w mb cb p M cv sv k nv dv vs ds X)(q:MK X W mb)(hm:zan W mb M):zlo w mb cb p M cv sv k nv dv vs ds W :=
 ⟨h.kp.trans q,hm,(q.same cb h.c.lt ⟨h.c.lt,zln h.m1 h.c⟩).trans h.c,h.lo,h.nl,h.dl,h.n.mk h.m1 q,fun x hx=>⟨(h.e x hx).1.mk h.m1 q,(h.e x hx).2⟩,h.d.mk h.m1 q,h.far⟩
theorem zgp{W:World}{B:Nat}{e e':TypeId}{sz sz':Nat}{v v':Value}{r r':List (List Value)}(h:zab W B e sz v r)(h':zab W B e' sz' v' r')(hne:e≠e'):∀g,v.ownBlock=some g→v'.ownBlock≠some g:=by
 intro g hg hg'
 rcases h.1.2 with⟨a,-⟩|⟨g1,cap,cur,rfl,-,h1,-⟩
 ·rw[a]at hg;cases hg
 ·rcases h'.1.2 with⟨a,-⟩|⟨g2,cap2,cur2,rfl,-,h2,-⟩
  ·rw[a]at hg';cases hg'
  ·cases hg;cases hg'
   rw[h1]at h2;exact hne (Obj.cells.inj (wfo h2)).2.1
theorem zh8{W:World}{B:Nat}{e T:TypeId}{sz b:Nat}{v:Value}{r:List (List Value)}{cur:Array Value}(h:zab W B e sz v r)(hb:W.heap[b]?=some (.cells cur T (0,0)))(hne:e≠T):v.ownBlock≠some b:=by
 intro hg
 rcases h.1.2 with⟨a,-⟩|⟨g1,cap,cur,rfl,-,h1,-⟩
 ·rw[a]at hg;cases hg
 ·cases hg
  rw[h1]at hb;exact hne (Obj.cells.inj (wfo hb)).2.1
end Go.Proofs.YtdcnbeehckgpcaaGreat
namespace Go.Proofs.YtdcnbeehckgpcaaGreat
open Go.Lib (hid)
open Go.RowKit Go.Shelf
attribute [local go_sem] Oper.semAt_some
theorem zahj:El 107 2 1:=El.mk' (bytes:=8) (z:=.int .i64 0) (by kernel_rfl) (by kernel_rfl) rfl (by omega) (by omega)
theorem zali:El 106 107 1:=El.mk' (bytes:=24) (z:=.slice none 0 0) (by kernel_rfl) (by kernel_rfl) rfl (by omega) (by omega)
def MK2(w W:World)(mb mb2:Nat):Prop:=Kept (fun b=>b<w.heap.size∧b≠mb∧b≠mb2) w W
theorem MK2.trans{a b c:World}{mb mb2:Nat}(h:MK2 a b mb mb2)(k:MK2 b c mb mb2):MK2 a c mb mb2:=by
 have h1:=h.size;exact Kept.trans h (k.mono fun j hj hs=>⟨by omega,hs.2⟩)
theorem zae9{w W:World}{mb mb2:Nat}{M T:zl}(hm:zan w mb M)(hm2:zan w mb2 T)(k:MK2 w W mb mb2){sz:Nat}{v:Value}{l:List (List Value)}(h:zao w sz v l):zao W sz v l:=by
 obtain⟨sa,cap,e,h1,h2,h3⟩:=h;refine⟨sa,cap,e,h1,h2,?_⟩
 rcases h3 with h3|⟨b,off,rfl,h3⟩
 ·exact .inl h3
 ·refine .inr ⟨b,off,rfl,fun i hi j hj=>?_⟩
  have hc:=h3 i hi j hj;refine k.cell hc ⟨wfu _ _ hc,fun e=>?_,fun e=>?_⟩
  ·simp only at e
   subst e;rw[map_cell hm]at hc;cases hc
  ·simp only at e
   subst e;rw[map_cell hm2]at hc;cases hc
theorem zlp{W:World}{sa:Option Addr}{n c:Nat}{l:List Nat}(h:zo W .i64 (.slice sa n c) (zy l))(hl:0<l.length){b off:Nat}(e:sa=some ⟨b,off,none⟩):b<W.heap.size:=by
 obtain⟨_,_,e0,-,-,hc⟩:=h.spec;cases e0
 rcases hc with h0|⟨b',off',e',hc⟩
 ·have:(zy l).length=0:=by rw[h0];rfl
  rw[zad]at this;omega
 ·rw[e']at e
  cases e;exact wfu _ _ (hc 0 (by rw[zad];exact hl))
theorem zdw.mk2{w W:World}{p p2 mb mb2:Nat}{M T:zl}{ka sa sa2:Option Addr}{kc sc sc2:Nat}(h:zdw w p p2 mb mb2 M T ka sa sa2 kc sc sc2)(VM:zag M)(VT:zag T)(k:MK2 w W mb mb2)(m1:zan W mb M)(m2:zan W mb2 T):zdw W p p2 mb mb2 M T ka sa sa2 kc sc sc2:=by
 have l1:0<M.ks.length:=by rw[VM.kl];have:=VM.n;omega
 have l2:0<M.ss.length:=by rw[VM.sl];have:=VM.n;omega
 have l3:0<T.ks.length:=by rw[VT.kl];have:=VT.n;omega
 have l4:0<T.ss.length:=by rw[VT.sl];have:=VT.n;omega
 exact ⟨⟨h.a.m.keptP k ⟨h.a.m.lt,h.a.o.p,h.ob.p⟩ (fun b o e=>⟨zlp h.a.m.ks l1 e,h.a.o.k b o e,h.ob.k b o e⟩) fun b o e=>⟨zlp h.a.m.ss l2 e,h.a.o.s b o e,h.ob.s b o e⟩,h.a.o,m1⟩,
  ⟨h.b.m.keptP k ⟨h.b.m.lt,h.oa.p,h.b.o.p⟩ (fun b o e=>⟨zlp h.b.m.ks l3 e,h.oa.k b o e,h.b.o.k b o e⟩) fun b o e=>⟨zlp h.b.m.ss l4 e,h.oa.s b o e,h.b.o.s b o e⟩,h.b.o,m2⟩,h.oa,h.ob,h.ne⟩
structure InC(Y:World)(mb mb2:Nat)(M T:zl)(n:Nat)(lv:Value)(ll:List Int)(W:World):Prop where
 k:MK2 Y W mb mb2
 m1:zan W mb M
 m2:zan W mb2 T
 o:zab W Y.heap.size 2 1 lv (ll.map zas)
 len:ll.length≤n
section
variable{Y:World}{mb mb2:Nat}{M T:zl}{n:Nat}{lv:Value}{ll:List Int}{W:World}
theorem InC.ext{W':World}(h:InC Y mb mb2 M T n lv ll W)(e:Ext W W'):InC Y mb mb2 M T n lv ll W' :=
 ⟨Kept.trans h.k ((Kept.of_below e).mono fun _ _ _=>trivial),h.m1.of_heap (e.block _ h.m1.lt),h.m2.of_heap (e.block _ h.m2.lt),h.o.ext e,h.len⟩
theorem InC.fst{W':World}(h:InC Y mb mb2 M T n lv ll W)(hne:mb≠mb2)(k:Kept (fun k=>k≠mb) W W')(hm:zan W' mb M):InC Y mb mb2 M T n lv ll W' :=
 ⟨Kept.trans h.k (k.mono fun _ _ hs=>hs.2.1),hm,h.m2.of_heap (k.same _ h.m2.lt hne.symm),h.o.keptAt k fun _ _ _ _ hg=>zln h.m1 hg,h.len⟩
theorem InC.snd{W':World}(h:InC Y mb mb2 M T n lv ll W)(hne:mb≠mb2)(k:Kept (fun k=>k≠mb2) W W')(hm:zan W' mb2 T):InC Y mb mb2 M T n lv ll W' :=
 ⟨Kept.trans h.k (k.mono fun _ _ hs=>hs.2.2),h.m1.of_heap (k.same _ h.m1.lt hne),hm,h.o.keptAt k fun _ _ _ _ hg=>zln h.m2 hg,h.len⟩
theorem znl{B mb:Nat}{M:zl}{e:TypeId}{sz:Nat}{v:Value}{r:List (List Value)}(h:zab W B e sz v r)(hm:zan W mb M):some mb≠v.ownBlock:=by
 intro e
 rcases h.1.2 with⟨a,-⟩|⟨g,cap,cur,rfl,-,hg,-⟩
 ·rw[a]at e;cases e
 ·cases e
  exact zln hm hg rfl
theorem InC.app{W':World}{v':Value}{x:Int}(h:InC Y mb mb2 M T n lv ll W)(k:Kept (fun k=>some k≠lv.ownBlock) W W')(ho:zab W' Y.heap.size 2 1 v' (ll.map zas++[[.int .i64 x]]))(hn:ll.length<n):InC Y mb mb2 M T n v' (ll++[x]) W' :=
 ⟨Kept.trans h.k (k.mono fun j _ hj e=>by have:=(h.o.notOwn j e.symm).1;omega),h.m1.of_heap (k.same _ h.m1.lt (znl h.o h.m1)),h.m2.of_heap (k.same _ h.m2.lt (znl h.o h.m2)),by rw[wde];exact ho,by rw[wc3,wdc];omega⟩
end
theorem MK2.one{X Y W:World}{mb mb2:Nat}(h:MK X Y mb)(k:MK2 Y W mb mb2)(hb:X.heap.size≤mb2):MK X W mb:=by
 have h1:=h.size;exact Kept.trans h (k.mono fun j _ hs=>⟨by omega,hs.2,by omega⟩)
end Go.Proofs.YtdcnbeehckgpcaaGreat
namespace Go.Proofs.YtdcnbeehckgpcaaGreat
open Go.Lib (hid)
open Go.RowKit Go.Shelf
def HCt(cb:Nat)(nv dv:Value)(k:Nat)(w w':World):Prop :=
 (k=8∧Kept (fun b=>some b≠nv.ownBlock) w w')∨(k=14∧Kept (fun b=>some b≠dv.ownBlock) w w')∨(k=17∧∃y,w'=w.setCell ⟨cb,3,none⟩ y)
theorem zdi(w:World)(b o:Nat)(y:Value):Kept (fun k=>k≠b) w (w.setCell ⟨b,o,none⟩ y):=(Kept.refl _ w).setCell (fun _ h=>h rfl) _
theorem zalj{B cb:Nat}{nv dv:Value}(h1:∀g,nv.ownBlock=some g→B≤g)(h2:∀g,dv.ownBlock=some g→B≤g)(h3:B≤cb):zt2 (HCt cb nv dv) B where
 b:=fun i w w' hB h=>by
  rcases h with⟨-,h⟩|⟨-,h⟩|⟨-,y,rfl⟩
  ·exact Kept.below (h.mono fun k _ hk e=>by have:=h1 k e.symm;omega) hB
  ·exact Kept.below (h.mono fun k _ hk e=>by have:=h2 k e.symm;omega) hB
  ·exact Kept.below ((zdi w cb 3 y).mono fun k _ hk=>by omega) hB
 s:=fun i w w' h=>by
  rcases h with⟨-,h⟩|⟨-,h⟩|⟨-,y,rfl⟩
  ·exact h.size
  ·exact h.size
  ·exact(zdi w cb 3 y).size
section
variable{B cb p:Nat}{cv sv nv dv lv:Value}{vs:List (Value×List Int)}{ds:List Int}{Y:World}
def JCt(B cb p:Nat)(cv sv nv dv:Value)(ds:List Int)(Y W:World):Prop:=zbw W cb p cv sv nv dv∧zab W B 2 1 dv (ds.map zas)∧Kept (fun b=>some b≠nv.ownBlock) Y W
theorem zaj4(h1:some cb≠nv.ownBlock)(h2:∀g,dv.ownBlock=some g→nv.ownBlock≠some g):zxi (HCt cb nv dv) (JCt B cb p cv sv nv dv ds Y) [8] where
 m:=fun w w' h e=>⟨h.1.ext e,h.2.1.ext e,h.2.2.trans (Kept.of_below e)⟩
 k:=fun k hk w w' h e=>by
  rw[wd0]at hk;subst hk
  rcases e with⟨-,e⟩|⟨e,-⟩|⟨e,-⟩
  ·exact⟨(e.same cb h.1.lt h1).trans h.1,h.2.1.keptAt e fun g _ _ hg _ e'=>h2 g hg e'.symm,h.2.2.trans e⟩
  ·cases e
  ·cases e
def P8(B:Nat)(nv:Value)(rows:List (List Value))(lv:Value)(Y:World)(v:Value)(W:World):Prop:=zab W B 107 1 v (rows++[[lv]])∧∀g,v.ownBlock=some g→nv.ownBlock=some g∨Y.heap.size≤g
theorem P8.ext{rows:List (List Value)}{v:Value}{W W':World}(h:P8 B nv rows lv Y v W)(e:Ext W W'):P8 B nv rows lv Y v W':=⟨h.1.ext e,h.2⟩
theorem P8.hard{rows:List (List Value)}{v:Value}{W W':World}(h1:some cb≠nv.ownBlock)(h2:∀g,dv.ownBlock=some g→nv.ownBlock≠some g)(h3:cb<Y.heap.size)(h4:∀g,dv.ownBlock=some g→g<Y.heap.size){k:Nat}(hk:k∈[14,17])(h:P8 B nv rows lv Y v W)(e:HCt cb nv dv k W W'):P8 B nv rows lv Y v W':=by
 refine⟨?_,h.2⟩
 rcases e with⟨e,-⟩|⟨-,e⟩|⟨-,y,rfl⟩
 ·subst e;simp at hk
 ·refine h.1.keptAt e fun g _ _ hg _ e'=>?_
  rcases h.2 g hg with h5|h5
  ·exact h2 g e'.symm h5
  ·have:=h4 g e'.symm;omega
 ·refine h.1.keptAt (zdi W cb 3 y) fun g _ _ hg _ e'=>?_
  subst e'
  rcases h.2 g hg with h5|h5
  ·exact h1 h5.symm
  ·omega
def P14(B cb p:Nat)(cv sv nv dv:Value)(ds:List Int)(Y:World)(v:Value)(W:World):Prop :=
 zab W B 2 1 v (ds.map zas++[[.int .i64 (-1)]])∧(∀g,v.ownBlock=some g→dv.ownBlock=some g∨Y.heap.size≤g)∧(∃y,zbw W cb p cv sv y dv)∧Kept (fun b=>some b≠nv.ownBlock∧some b≠dv.ownBlock∧b≠cb) Y W
theorem P14.ext{v:Value}{W W':World}(h:P14 B cb p cv sv nv dv ds Y v W)(e:Ext W W'):P14 B cb p cv sv nv dv ds Y v W':=by
 obtain⟨h1,h2,⟨y,h3⟩,h4⟩:=h;exact⟨h1.ext e,h2,⟨y,h3.ext e⟩,h4.trans (Kept.of_below e)⟩
theorem z75{W:World}{cb p:Nat}{cv sv nv dv:Value}(h:zbw W cb p cv sv nv dv)(y:Value):zbw (W.setCell ⟨cb,3,none⟩ y) cb p cv sv y dv:=by
 have:=zal h 3 y;simpa[zbw]using this
theorem zafa{W:World}{cb p:Nat}{cv sv nv dv:Value}(h:zbw W cb p cv sv nv dv)(y:Value):zbw (W.setCell ⟨cb,4,none⟩ y) cb p cv sv nv y:=by
 have:=zal h 4 y;simpa[zbw]using this
theorem P14.hard{v:Value}{W W':World}(h1:∀g,dv.ownBlock=some g→g≠cb)(h3:cb<Y.heap.size){k:Nat}(hk:k∈[17])(h:P14 B cb p cv sv nv dv ds Y v W)(e:HCt cb nv dv k W W'):P14 B cb p cv sv nv dv ds Y v W':=by
 rw[wd0]at hk;subst hk
 rcases e with⟨e,-⟩|⟨e,-⟩|⟨-,y,rfl⟩
 ·cases e
 ·cases e
 ·obtain⟨q1,q2,⟨z,q3⟩,q4⟩:=h
  refine⟨q1.keptAt (zdi W cb 3 y) fun g _ _ hg _ e'=>?_,q2,⟨y,z75 q3 y⟩,q4.trans ((zdi W cb 3 y).mono fun k _ hk=>hk.2.2)⟩;subst e'
  rcases q2 g hg with h5|h5
  ·exact h1 g h5 rfl
  ·omega
def zhc(S:Nat)(x:Value)(v:Value)(W:World):Prop:=∃b,v=.slice (some ⟨b,0,none⟩) 1 1∧S≤b∧W.cell? ⟨b,0,none⟩=some x
theorem zhc.ext{S:Nat}{x v:Value}{W W':World}(h:zhc S x v W)(e:Ext W W'):zhc S x v W':=by
 obtain⟨b,h1,h2,h3⟩:=h;exact⟨b,h1,h2,zh e h3⟩
theorem zhc.hard{x v:Value}{W W':World}(h4:∀g,nv.ownBlock=some g→g<Y.heap.size){k:Nat}(hk:k∈[8])(h:zhc Y.heap.size x v W)(e:HCt cb nv dv k W W'):zhc Y.heap.size x v W':=by
 rw[wd0]at hk;subst hk;obtain⟨b,h1,h2,h3⟩:=h
 rcases e with⟨-,e⟩|⟨e,-⟩|⟨e,-⟩
 ·exact⟨b,h1,h2,e.cell h3 fun e'=>by have:=h4 b e'.symm;omega⟩
 ·cases e
 ·cases e
theorem zhc.rows{S:Nat}{x v:Value}{W:World}(h:zhc S x v W):∃b,v=.slice (some ⟨b,0,none⟩) 1 1∧zbd W 1 b 0 [[x]]:=by
 obtain⟨b,h1,h2,h3⟩:=h;refine⟨b,h1,zw6 (r:=[x]) fun j hj=>?_⟩
 match j,hj with
 |0,_=>simpa using h3
end
theorem zlo.grow{w Y W:World}{mb cb p:Nat}{M:zl}{cv sv:Value}{k:Nat}{nv dv v8 v14 lv:Value}{vs:List (Value×List Int)}{ds ll:List Int}{S:Nat}(h:zlo w mb cb p M cv sv k nv dv vs ds Y)(hl:zab Y S 2 1 lv (ll.map zas))(hS:w.heap.size≤S)(hS2:∀g,dv.ownBlock=some g→g<S)(hlen:ll.length≤1000)
  (h8:P8 w.heap.size nv (vs.map fun x=>[x.1]) lv Y v8 W) (h14:P14 w.heap.size cb p cv sv nv dv ds Y v14 W) (hc:zbw W cb p cv sv v8 dv):zlo w mb cb p M cv sv (k+1) v8 v14 (vs++[(lv,ll)]) (ds++[-1]) (W.setCell ⟨cb,4,none⟩ v14):=by
 obtain⟨q1,q2,-,q4⟩:=h14;have hk4:=q4.trans ((zdi W cb 4 v14).mono fun k _ hk=>hk.2.2);have a1:some cb≠nv.ownBlock:=fun e=>zh8 h.n h.c (by decide) e.symm
 have a2:some cb≠dv.ownBlock:=fun e=>zh8 h.d h.c (by decide) e.symm
 have hset:∀{e:TypeId} {sz:Nat} {v:Value} {r:List (List Value)},zab W w.heap.size e sz v r→v.ownBlock≠some cb→zab (W.setCell ⟨cb,4,none⟩ v14) w.heap.size e sz v r:=fun ho hne=>ho.keptAt (zdi W cb 4 v14) fun g _ _ hg _ e'=>by subst e';exact hne hg
 have hcl:=h.c.lt;have hmk:MK Y (W.setCell ⟨cb,4,none⟩ v14) mb→True:=fun _=>trivial
 have hlo:=h.lo;have hold:∀{v:Value} {l:List Int},zab Y w.heap.size 2 1 v (l.map zas)→(∀g,v.ownBlock=some g→dv.ownBlock≠some g)→zab (W.setCell ⟨cb,4,none⟩ v14) w.heap.size 2 1 v (l.map zas):=fun ho hd=>ho.keptAt hk4 fun g _ _ hg _=>⟨fun e=>zgp ho h.n (by decide) g hg e.symm,fun e=>hd g hg e.symm,fun e=>by subst e;exact zh8 ho h.c (by decide) hg⟩
 have hle:zab Y w.heap.size 2 1 lv (ll.map zas):=by
  refine⟨⟨hl.1.1,?_⟩,hl.2⟩
  rcases hl.1.2 with a|⟨g,cap,cur,hv,hb,hr⟩
  ·exact .inl a
  ·exact .inr ⟨g,cap,cur,hv,wer hS hb,hr⟩
 have hld:∀g,lv.ownBlock=some g→dv.ownBlock≠some g:=fun g hg e=>by have:=(hl.notOwn g hg).1;have:=hS2 g e;omega
 have h14c:v14.ownBlock≠some cb:=fun e=>by
  rcases q2 cb e with h5|h5
  ·exact a2 h5.symm
  ·omega
 refine⟨?_,?_,?_,h.lo,by rw[wc3,wdc,h.nl],by rw[wc3,wdc,h.dl],?_,fun x hx=>?_,?_,fun x hx g hg=>?_⟩
 ·refine Kept.trans h.kp (hk4.mono fun b _ hb=>⟨fun e=>?_,fun e=>?_,fun e=>by have:=hb.1;omega⟩)
  ·have:=(h.n.notOwn b e.symm).1;have:=hb.1;omega
  ·have:=(h.d.notOwn b e.symm).1;have:=hb.1;omega
 ·exact h.m1.of_heap (hk4.same _ h.m1.lt ⟨znl h.n h.m1,znl h.d h.m1,fun e=>zln h.m1 h.c e.symm⟩)
 ·exact zafa hc v14
 ·rw[wde]
  exact hset h8.1 fun e=>by
   rcases h8.2 cb e with h5|h5
   ·exact a1 h5.symm
   ·omega
 ·rcases wdm.1 hx with hx|hx
  ·exact⟨hold (h.e x hx).1 (h.far x hx),(h.e x hx).2⟩
  ·rw[wd0]at hx
   subst hx;exact⟨hold hle hld,hlen⟩
 ·rw[wde]
  exact hset q1 h14c
 ·intro hg2
  rcases wdm.1 hx with hx|hx
  ·rcases q2 g hg2 with h5|h5
   ·exact h.far x hx g hg h5
   ·have:=((h.e x hx).1.notOwn g hg).2;omega
  ·rw[wd0]at hx
   subst hx
   rcases q2 g hg2 with h5|h5
   ·exact hld g hg h5
   ·have:=(hl.notOwn g hg).2;omega
theorem zaci{H:Nat→World→World→Prop}{P:Program}{i:Nat}{strong:Bool}{o:Oper}{ρ:Operand→Value}{W:World}{val:Nat→Value}{s:SqM H}{W':World}(h:(execOp ρ o).run P W=.ok .skip W')(he:zji H i strong W W')(hs:s.p (s.us.map val) undef W'):zqm P i strong o ρ W val s:=by
 unfold zqm;rw[h];exact⟨he,hs⟩
theorem z76{W:World}{B:Nat}{dv:Value}{ds:List Int}(h:zab W B 2 1 dv (ds.map zas))(hl:0<ds.length):∃db dc,dv=.slice (some ⟨db,0,none⟩) ds.length dc∧zcx W db ds.length:=by
 have hI:zo W .i64 dv ds:=h.isRows;obtain⟨_,_,e0,-,-,hc⟩:=hI.spec
 rcases h.1.2 with⟨a,-⟩|⟨g,cap,cur,e,hb,hg,hr⟩
 ·subst e0
  rcases hc with h0|⟨b,off,rfl,hc⟩
  ·rw[h0]at hl;simp at hl
  ·cases a
 ·rw[e]at e0
  simp only[wc8,wft]at e0;obtain⟨rfl,-,rfl⟩:=e0
  rcases hc with h0|⟨b,off,e1,hc⟩
  ·rw[h0]at hl;simp at hl
  ·cases e1
   refine⟨g,_,by rw[e,wc8],cur,hg,?_,fun j hj=>?_⟩
   ·have:=hc (ds.length-1) (by omega)
    rw[cell_of_row _ _ _ _ _ _ hg]at this;have:=(wad.1 this).1;omega
   ·have:=hc j hj
    rw[cell_of_row _ _ _ _ _ _ hg]at this;exact⟨_,by simpa using this⟩
theorem zacj{W:World}{B:Nat}{e:TypeId}{sz:Nat}{sa:Option Addr}{n c:Nat}{r:List (List Value)}(_:zab W B e sz (.slice sa n c) r):∀b off,sa=some ⟨b,off,none⟩→(Value.slice sa n c).ownBlock=some b:=by
 intro b off e;subst e;rfl
structure zsk(X:World)(dv:Value)(n:Nat)(W:World):Prop where
 k:Kept (fun b=>b<X.heap.size∧some b≠dv.ownBlock) X W
 p:∀db,dv.ownBlock=some db→zcx W db n
theorem zsk.step{X W Y W2:World}{dv:Value}{n db mx:Nat}{F:Int→Option Int}(h:zsk X dv n W)(hd:dv.ownBlock=some db)(e:Ext W Y)(hm:X.heap.size≤mx)(q:zqn Y db n mx F W2):zsk X dv n W2:=by
 refine⟨(h.k.trans (Kept.of_below e)).trans (q.k.mono fun b _ hb=>⟨fun e=>hb.2 (by rw[e,hd]),fun e=>by have:=hb.1;omega⟩),fun g hg=>?_⟩;rw[hd]at hg;cases hg;exact q.p
theorem zaj5{w X W:World}{mb cb p:Nat}{M:zl}{cv sv:Value}{k:Nat}{na:Option Addr}{nn nc:Nat}{dv:Value}{vs:List (Value×List Int)}{ds:List Int}{n db mx:Nat}(h:zlo w mb cb p M cv sv k (.slice na nn nc) dv vs ds X)(hp:zsk X dv n W)(hd:dv.ownBlock=some db)(hm:X.heap.size≤mx):nn=vs.length∧zxj (fun k=>k≠db∧k≠mx) W na nc vs:=by
 have hn:nn=vs.length:=by
  obtain⟨_,_,e,-⟩:=h.n.isRows;cases e;simp
 subst hn;have hS:∀{e:TypeId} {sz:Nat} {sa:Option Addr} {n c:Nat} {r:List (List Value)},zab X w.heap.size e sz (.slice sa n c) r→(∀g,(Value.slice sa n c).ownBlock=some g→g≠db)→(∀b off,sa=some ⟨b,off,none⟩→(b<X.heap.size∧some b≠dv.ownBlock)∧b≠db∧b≠mx):=fun ho hne b off e=>by
  have h1:=zacj ho b off e;have h2:=(ho.notOwn b h1).2;have h3:=hne b h1;exact⟨⟨h2,by rw[hd];exact fun e=>h3 (wfo e)⟩,h3,by omega⟩
 have hnd:∀g,(Value.slice na vs.length nc).ownBlock=some g→g≠db:=fun g hg e=>by
  subst e;exact zgp h.d h.n (by decide) g hd hg
 refine⟨rfl,⟨z04 h.n.isRows hp.k fun b off e=>(hS h.n hnd b off e).1,fun b off e=>(hS h.n hnd b off e).2,fun x hx=>?_⟩⟩;obtain⟨h1,h2⟩:=h.e x hx;obtain⟨xa,xn,xc,hx1⟩:=h1.isSlice;have hfx:=h.far x hx;rw[hx1]at h1 hfx;have hxn:xn=x.2.length:=by
  obtain⟨_,_,e,-⟩:=h1.isRows;cases e;simp
 subst hxn;have hxd:∀g,(Value.slice xa x.2.length xc).ownBlock=some g→g≠db:=fun g hg e=>by
  subst e;exact hfx g hg hd
 exact⟨xa,xc,hx1,zgl (h1.isRows:zo X .i64 _ x.2) hp.k fun b off e=>(hS h1 hxd b off e).1,fun b off e=>(hS h1 hxd b off e).2⟩
theorem zlo.done{w X W:World}{mb cb p:Nat}{M:zl}{cv sv:Value}{k:Nat}{nv dv:Value}{vs:List (Value×List Int)}{ds:List Int}{n:Nat}(h:zlo w mb cb p M cv sv k nv dv vs ds X)(hp:zsk X dv n W):MK w W mb∧zan W mb M∧zbw W cb p cv sv nv dv:=by
 have h1:=h.kp.size;refine⟨Kept.trans h.kp (hp.k.mono fun b _ hb=>⟨by have:=hb.1;omega,fun e=>by have:=(h.d.notOwn b e.symm).1;have:=hb.1;omega⟩),h.m1.of_heap (hp.k.same _ h.m1.lt ⟨h.m1.lt,znl h.d h.m1⟩),(hp.k.same _ h.c.lt ⟨h.c.lt,fun e=>zh8 h.d h.c (by decide) e.symm⟩).trans h.c⟩
end Go.Proofs.YtdcnbeehckgpcaaGreat
