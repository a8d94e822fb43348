/-
  A region that draws its order, some of whose operations are carried out only if another one has yielded true (or false): which ones, is known beforehand.
-/
import Derived.Test.YtdcnbeehckgpcaaGreatBa
set_option maxRecDepth 200000
set_option maxHeartbeats 0
namespace Go.Proofs.YtdcnbeehckgpcaaGreat
open Go.RowKit Go.Shelf
def strip(o:Oper):Oper:={ o with guard:=none }
def zv5(ls:List Oper)(size:Nat):Bool:=zf7 (ls.map strip) size
structure RelG(ls:List Oper)(size i:Nat)(o:Oper):Prop where
 s:∀cs b,o.op≠.select cs b
 d:∀d,o.dst=some d→d<size
 dep:∀j∈zae o,j<i
 ne:∀j,j<ls.length→j≠i→∀d,o.dst=some d→zaf ls j≠some d
 x:∀s,Operand.tmp s∈o.op.operands→(∃j∈zae o,zaf ls j=some s)∨∀j,j<ls.length→zaf ls j≠some s
theorem zsa(ls:List Oper)(j:Nat):zaf (ls.map strip) j=zaf ls j:=by
 unfold zaf;rw[wcq];cases ls[j]?<;>rfl
theorem zk7{ls:List Oper}{size:Nat}(h:zv5 ls size=true){i:Nat}{o:Oper}(hi:ls[i]?=some o):RelG ls size i o:=by
 have hi':(ls.map strip)[i]?=some (strip o):=by rw[wcq,hi];rfl
 have R:=zcq h hi';have hlen:(ls.map strip).length=ls.length:=wc8 ..;refine⟨R.s,R.d,R.dep,fun j hj hji d hd=>?_,fun s hs=>?_⟩
 ·rw[←zsa];exact R.ne j (by rw[hlen];exact hj) hji d hd
 ·rcases R.x s hs with⟨j,hj,hd⟩|hno
  ·exact .inl ⟨j,hj,by rw[←zsa];exact hd⟩
  ·exact .inr fun j hj=>by rw[←zsa];exact hno j (by rw[hlen];exact hj)
def zk8(ls:List Oper)(wt:List Bool)(gv:List (Option Bool))(hd:List Bool):Bool :=
 (List.range ls.length).all fun i=>match ls[i]? with
  |none=>true
  |some o=>match o.guard with
   |none=>wt.getD i true
   |some (j,b0)=>(zae o).contains j&&(zaf ls j).isSome&&hd.getD j true&&match gv.getD j none with
    |none=>!wt.getD j true && !wt.getD i true
    |some b=>wt.getD i true == (b == b0)
theorem z9q{ls:List Oper}{wt:List Bool}{gv:List (Option Bool)}{hd:List Bool}(h:zk8 ls wt gv hd=true){i:Nat}{o:Oper}(hi:ls[i]?=some o) :
  (o.guard=none∧wt.getD i true=true)∨∃j b0,o.guard=some (j,b0)∧j∈zae o∧(∃s,zaf ls j=some s)∧hd.getD j true=true∧((∃b,gv.getD j none=some b∧wt.getD i true=(b == b0))∨(wt.getD j true=false∧wt.getD i true=false)):=by
 have hil:i<ls.length:=(wcp.1 hi).1;have h1:=wbk.1 h i (wdz.2 hil);rw[hi]at h1
 rcases hg:o.guard with _|⟨j,b0⟩
 ·simp only[hg]at h1;exact .inl ⟨rfl,h1⟩
 ·simp only[hg,waw]at h1
  obtain⟨⟨⟨a1,a2⟩,a3⟩,a4⟩:=h1;refine .inr ?_
  rcases hv:gv.getD j none with _|b
  ·simp only[hv,waw,wa3]at a4
   exact⟨j,b0,rfl,by simpa using a1,wfl.1 a2,a3,.inr a4⟩
  ·simp only[hv]at a4
   exact⟨j,b0,rfl,by simpa using a1,wfl.1 a2,a3,.inl ⟨b,hv,by simpa using a4⟩⟩
def zmy:List (Option Bool)→List Sq→Prop
 |some b::gs,s::ss=>(∀l v W,s.p l v W→v=.bool b)∧zmy gs ss
 |none::gs,_::ss=>zmy gs ss
 |[],_=>True
 |_::_,[]=>False
theorem zmy.at:∀{gs:List (Option Bool)} {ss:List Sq},zmy gs ss→∀j b,gs.getD j none=some b→∀l v W,(ss.getD j sqT).p l v W→v=.bool b
 |some c::gs,s::ss,h,0,b,hj=>by simp at hj;subst hj;simpa using h.1
 |some c::gs,s::ss,h,j+1,b,hj=>by simpa using zmy.at h.2 j b (by simpa using hj)
 |none::gs,s::ss,h,0,b,hj=>by simp at hj
 |none::gs,s::ss,h,j+1,b,hj=>by simpa using zmy.at (gs:=gs) (ss:=ss) h j b (by simpa using hj)
 |[],_,_,j,b,hj=>by simp at hj
 |none::_,[],h,_,_,_=>False.elim h
 |some _::_,[],h,_,_,_=>False.elim h
def z9r(P:Program)(w:World)(B:Nat)(ls:List Oper)(S:Nat→Sq)(a:Act)(strong early:Bool)(o:Oper)(s:Sq):Prop :=
 ∀(val:Nat→Value) (ρ:Operand→Value) (W:World),Below B w W→w.heap.size≤W.heap.size→(∀j∈zhs ls o,(S j).p ((S j).us.map val) (val j) W)→(∀j∈s.us,(S j).p ((S j).us.map val) (val j) W)→Holds ls a o val ρ→(early=true→Ext w W)→zjd P B strong o ρ W val s
def usO(n:Nat)(S:List Sq)(A:List (List Nat))(hd st:List Bool):Bool:=(List.range n).all fun i=>(S.getD i sqT).us.all fun j=>(List.range n).all fun k=>!zdv A hd st k j||k == i||(A.getD k []).contains i
theorem z60{ls:List Oper}{A:List (List Nat)}{size:Nat}(hR:zv5 ls size=true)(hA:z9l ls A=true){listed:Array Bool}(hc:zw4 ls listed):∀(j:Nat),j<ls.length→listed.getD j false=true→∀i∈A.getD j [],listed.getD i false=true:=by
 intro j
 induction j using Nat.strongRecOn with
 |_ j ih =>
  intro hj hl i hi;have h1:=wbk.1 (wbk.1 hA j (wdz.2 hj)) i hi;have hj':ls[j]?=some ls[j]:=wcn hj;rw[hj']at h1;obtain⟨d,hd,h2⟩:=wbl.1 h1;have hdl:=hc j _ hj' hl d hd;have hdj:=(zk7 hR hj').dep d hd;rw[wa6]at h2
  rcases h2 with h2|h2
  ·have:d=i:=by simpa using h2
   subst this;exact hdl
  ·exact ih d hdj (by omega) hdl i (by simpa using h2)
theorem zald{P:Program}{w:World}{B:Nat}(hBw:B≤w.heap.size){ls:List Oper}{S:Nat→Sq}{A:List (List Nat)}{hd st wt:List Bool}{gv:List (Option Bool)}{a:Act}{Q:Act→World→Prop}(hB:zv5 ls a.tmps.size=true)(hG:zk8 ls wt gv hd=true)(hgv:∀j b,gv.getD j none=some b→∀l v W,(S j).p l v W→v=.bool b)(hO:zct ls A hd st=true)
  (hhd:∀j,hd.getD j true=true→(S j).hard=true) (hus:∀i o,ls[i]?=some o→∀k∈(S i).us,k∈zae o) (huo:∀i,i<ls.length→∀j∈(S i).us,∀k,k<ls.length→zdv A hd st k j=false∨k=i∨(A.getD k []).contains i=true)
  (hstep:∀i o,ls[i]?=some o→if wt.getD i true then z9r P w B ls S a (st.getD i false) ((zbg ls.length A st).getD i false) o (S i)else (∀l W,(S i).p l undef W)∧∀l v W,(S i).p l v W→v=undef)
  (hend:∀(val:Nat→Value) (W:World),Below B w W→(∀j,j<ls.length→(∀k,k<ls.length→zdv A hd st k j=false)→(S j).p ((S j).us.map val) (val j) W)→Q (zam ls val a (List.range ls.length)) W) :
  ∀(fuel:Nat) (listed:Array Bool) (a':Act) (W:World),listed.size=ls.length→(List.range ls.length).countP (fun j=>!listed.getD j false)≤fuel→w.heap.size≤W.heap.size→RInv w B ls S A hd st a listed a' W →
   wpAnyL P .any ls.toArray Q fuel listed a' W:=by
 simp only[zct,waw]at hO;obtain⟨hA,hO⟩:=hO;have fin:∀(listed:Array Bool) (a':Act) (W:World),listed.size=ls.length→RInv w B ls S A hd st a listed a' W→(∀j,j<ls.length→listed.getD j false=true)→Q a' W:=by
  intro listed a' W hs ⟨hE,hc,_,val,h1,h2,h3,h4,h5⟩ hall;have e:a'=zam ls val a (List.range ls.length):=by
   refine ztv (by rw[h2,zgh]) (by rw[h3,ziu]) fun s=>?_
   by_cases hx:∃j,j<ls.length∧zaf ls j=some s
   ·obtain⟨j,hj,hd⟩:=hx
    have hj':ls[j]?=some ls[j]:=wcn hj;have hR:=zk7 hB hj';have hdst:ls[j].dst=some s:=by unfold zaf at hd;rw[hj']at hd;exact hd
    rw[h4 j s hd (hall j hj),zdb val hd _ _ (fun k hk hd2=>?_) (hR.d s hdst) (.inl (wdz.2 hj))]
    by_cases hkj:k=j
    ·exact hkj
    ·exact absurd hd2 (hR.ne k (wdz.1 hk) hkj s hdst)
   ·rw[h5 s fun j hl hd=>hx ⟨j,?_,hd⟩,zcr ls val _ _ fun j hj hd=>hx ⟨j,wdz.1 hj,hd⟩]
    unfold zaf at hd
    rcases weu j ls.length with hj|hj
    ·exact hj
    ·rw[wco hj]at hd;cases hd
  rw[e];exact hend val W hE fun j hj hk=>h1 j hj (hall j hj) fun k hkl _=>hk k hkl
 have zd6:∀(listed:Array Bool),listed.size=ls.length→Region.ready .any ls.toArray listed=[]→∀j,j<ls.length→listed.getD j false=true:=by
  intro listed hs h0 j
  induction j using Nat.strongRecOn with
  |_ j ih =>
   intro hj;cases hl:listed.getD j false with
   |true=>rfl
   |false =>
    exfalso;have hj':ls[j]?=some ls[j]:=wcn hj;have hR:=zk7 hB hj';have hin:j∈Region.ready .any ls.toArray listed:=by
     refine mem_ready.2 ⟨?_,ls[j],by simp[hj],fun e he hb=>?_⟩
     ·have hjs:j<listed.size:=by omega
      simp[hjs]at hl ⊢;exact hl
     ·have hd:e.on∈zae ls[j]:=wdv.2 ⟨e,wds.2 ⟨by simpa using he,hb⟩,rfl⟩
      have hlt:=hR.dep _ hd;exact ih _ hlt (by omega)
    rw[h0]at hin;cases hin
 have step:∀(listed:Array Bool) (a':Act) (W:World) (i:Nat) (K:Act→World→Prop),listed.size=ls.length→w.heap.size≤W.heap.size→RInv w B ls S A hd st a listed a' W→i∈Region.ready .any ls.toArray listed →
   (∀a2 W2,w.heap.size≤W2.heap.size→RInv w B ls S A hd st a (listed.setIfInBounds i true) a2 W2→K a2 W2)→zix P ls.toArray i K a' W:=by
  intro listed a' W i K hs hsz0 ⟨hE,hc,hx0,val,h1,h2,h3,h4,h5⟩ hi hK;obtain⟨hl,o,ho,hdeps⟩:=mem_ready.1 hi;have ho':ls[i]?=some o:=by simpa using ho
  have hilt:i<ls.length:=(wcp.1 ho').1;have hR:=zk7 hB ho';have hdl:∀j∈zae o,listed.getD j false=true:=fun j hj=>by
   obtain⟨e,he,rfl⟩:=wdv.1 hj;obtain⟨he1,he2⟩:=wds.1 he;exact hdeps e (by simpa using he1) he2
  have hilf:listed.getD i false=false:=by
   have:i<listed.size:=by omega
   simp[this]at hl ⊢;exact hl
  have hnl:∀{b:Prop},listed.getD i false=true→b:=fun h=>by rw[hilf]at h;cases h
  have hanc:=z60 hB hA hc;have hev:∀x∈o.op.operands,a'.eval x=(zam ls val a (zae o)).eval x:=fun x hx=>by
   cases x with
   |tmp s =>
    have hh:a'.tmps[s]?=(zam ls val a (zae o)).tmps[s]?:=by
     rcases hR.x s hx with⟨j,hj,hd⟩|hno
     ·have hji:=hR.dep j hj
      have hj':ls[j]?=some (ls[j]'(by omega)):=wcn (by omega);have hRj:=zk7 hB hj';have hdst:(ls[j]'(by omega)).dst=some s:=by unfold zaf at hd;rw[hj']at hd;exact hd
      rw[h4 j s hd (hdl j hj),zdb val hd _ _ (fun k hk hd2=>?_) (hRj.d s hdst) (.inl hj)]
      by_cases hkj:k=j
      ·exact hkj
      ·exact absurd hd2 (hRj.ne k (by have:=hR.dep k hk;omega) hkj s hdst)
     ·rw[h5 s fun j hl hd=>?_,zcr ls val _ _ fun j hj=>hno j (by have:=hR.dep j hj;omega)]
      rcases weu j ls.length with hj|hj
      ·exact hno j hj hd
      ·unfold zaf at hd;rw[wco hj]at hd;cases hd
    simp only[Act.eval,wab,hh]
   |_=>rfl
  have hx:=execOp_congr o hR.s hev;have hH:Holds ls a o val (zam ls val a (zae o)).eval:=by
   refine⟨fun j hj t ht=>?_,fun t ht=>?_,fun _=>rfl,fun _=>rfl⟩
   ·have hji:=hR.dep j hj
    have hj':ls[j]?=some (ls[j]'(by omega)):=wcn (by omega);have hRj:=zk7 hB hj';have hdst:(ls[j]'(by omega)).dst=some t:=by unfold zaf at ht;rw[hj']at ht;exact ht
    have:=zdb val ht (zae o) a (fun k hk hd2=>by
     by_cases hkj:k=j
     ·exact hkj
     ·exact absurd hd2 (hRj.ne k (by have:=hR.dep k hk;omega) hkj t hdst)) (hRj.d t hdst) (.inl hj)
    simp[Act.eval,this]
   ·have:=zcr ls val (zae o) a (fun j hj=>ht j hj)
    simp only[Act.eval,wab,this]
  have hdepS:∀j∈zhs ls o++(S i).us,(S j).p ((S j).us.map val) (val j) W:=fun j hju=>by
   have hj:j∈zae o:=(wdm.1 hju).elim (fun h=>(wds.1 h).1) (fun h=>hus i o ho' j h);refine h1 j (by have:=hR.dep j hj;omega) (hdl j hj) fun k hk hlk=>?_
   cases hkl:zdv A hd st k j with
   |false=>rfl
   |true =>
    rcases wdm.1 hju with hju|hju
    rotate_left
    ·rcases huo i hilt j hju k hk with q|q|q
     ·rw[hkl]at q;cases q
     ·subst q;exact hnl hlk
     ·exact hnl (hanc k hk hlk i (by simpa using q))
    have q:=wbk.1 hO i (wdz.2 hilt);rw[ho']at q;have q2:=wbk.1 (wbk.1 q j hju) k (wdz.2 hk);rw[hkl]at q2;simp only[wa5,wa1,wa6]at q2
    rcases q2 with q2|q2
    ·have:k=i:=by simpa using q2
     subst this;exact hnl hlk
    ·exact hnl (hanc k hk hlk i (by simpa using q2))
  have hwant:=z9q hG ho';have hearly:(zbg ls.length A st).getD i false=true→Ext w W:=fun he=>hx0 fun k hk hlk=>by
   simp only[zbg,wch,wcq,wcr hilt,wfn,wfk]at he;have q:=wbk.1 he k (wdz.2 hk);simp only[wa6,wa3]at q
   rcases q with(q|q)|q
   ·simpa[wch]using q
   ·have:k=i:=by simpa using q
    subst this;exact hnl hlk
   ·exact hnl (hanc k hk hlk i (by simpa[wch]using q))
  have hupd:∀(j:Nat) (oj:Oper),ls[j]?=some oj→(listed.getD j false=true∨j=i)→(S j).us.map (fun k=>if k=i then (match o.dst with|some _=>undef|none=>undef)else val k)=(S j).us.map val∧∀u:Value,(S j).us.map (fun k=>if k=i then u else val k)=(S j).us.map val:=fun j oj hj hlj=>by
   have key:∀u:Value,(S j).us.map (fun k=>if k=i then u else val k)=(S j).us.map val:=fun u=>wdf fun k hk=>by
    have hkd:=hus j oj hj k hk;have hkl:listed.getD k false=true:=by
     rcases hlj with h|rfl
     ·exact hc j oj hj h k hkd
     ·rw[ho']at hj;cases hj;exact hdl k hkd
    have:k≠i:=fun e=>by subst e;exact hnl hkl
    rw[if_neg this]
   exact⟨key _,key⟩
  have next:∀v W',Eff B (st.getD i false) W W'→(S i).p ((S i).us.map val) (match o.dst with|some _=>v|none=>undef) W'→K (a'.put o.dst v) W':=fun v W' hE' hS=>by
   have hsz1:W.heap.size≤W'.heap.size:=by
    unfold Eff at hE'
    split at hE'
    ·exact hE'.size
    ·exact hE'.size
   refine hK _ _ (by omega) ⟨hE.trans (hE'.below (by omega)),fun j oj hj hlj d hd=>?_,fun hns=>?_,fun j=>if j=i then (match o.dst with|some _=>v|none=>undef)else val j,fun j hj hlj hal=>?_,by rw[put_defers,h2],by rw[zjc,h3],fun j s hd hlj=>?_,fun s hno=>?_⟩
   ·by_cases hji:j=i
    ·subst hji
     rw[ho']at hj;cases hj;exact getD_set_true (hdl d hd)
    ·rw[getD_set_ne false (wff hji)]at hlj
     exact getD_set_true (hc j oj hj hlj d hd)
   ·have hst:=hns i hilt (by simp[hs,hilt])
    rw[hst]at hE';exact(hx0 fun k hk hlk=>hns k hk (getD_set_true hlk)).trans' hE'
   ·by_cases hji:j=i
    ·subst hji;rw[(hupd j o ho' (.inr rfl)).2];simp only[if_true];exact hS
    ·rw[getD_set_ne false (wff hji)]at hlj
     rw[(hupd j _ (wcn hj) (.inl hlj)).2];simp only[hji,if_false];have hold:=h1 j hj hlj fun k hk hlk=>hal k hk (getD_set_true hlk)
     have hki:=hal i hilt (by simp[hs,hilt]);cases hst:st.getD i false with
     |false =>
      rw[hst]at hE';exact(S j).m _ _ _ _ hold hE'
     |true =>
      unfold zdv at hki;rw[hst]at hki;have hij:(i == j)=false:=by simpa using fun h=>hji h.symm
      rw[hij]at hki;simp only[wa7,wa4,wax,wav,wa2]at hki
      rcases hki with hki|hki
      ·exact(S j).hm (hhd j hki) _ _ _ _ hold
      ·exact hnl (hanc j hj hlj i (by simpa using hki))
   ·by_cases hji:j=i
    ·subst hji
     have hdst:o.dst=some s:=by unfold zaf at hd;rw[ho']at hd;exact hd
     simp only[if_true,hdst];exact zr1 _ _ (by rw[h3];exact hR.d s hdst)
    ·rw[getD_set_ne false (wff hji)]at hlj
     simp only[hji,if_false];rw[zf3,h4 j s hd hlj];intro hdst
     rcases weu j ls.length with hj|hj
     ·exact hR.ne j hj hji s hdst hd
     ·unfold zaf at hd;rw[wco hj]at hd;cases hd
   ·have hoi:o.dst≠some s:=by
     have:=hno i (by simp[hs,hilt]);unfold zaf at this;rw[ho']at this;exact this
    rw[zf3 _ _ hoi,h5 s fun j hlj=>hno j (getD_set_true hlj)]
  have hy:Region.wanted o (yielded ls.toArray a'.tmps)=wt.getD i true:=by
   rcases hwant with⟨hg,hw⟩|⟨j,b0,hg,hj,⟨s,hs'⟩,hhj,⟨b,hgj,hw⟩|⟨hwj,hw⟩⟩
   ·rw[hw];simp[Region.wanted,hg]
   rotate_left
   ·have hjl:j<ls.length:=by have:=hR.dep j hj;omega
    have hst1:=hstep j _ (wcn hjl);rw[hwj]at hst1;simp only[waz,if_false]at hst1;have hv:=hst1.2 _ _ _ (h1 j hjl (hdl j hj) fun k hk _=>by unfold zdv;rw[hhj];simp);have ht:=h4 j s hs' (hdl j hj);have hyj:yielded ls.toArray a'.tmps j=none:=by
     unfold yielded;have e1:((ls.toArray[j]?).bind (·.dst))=some s:=by
      unfold zaf at hs';simpa using hs'
     rw[e1];simp only[wfj,ht,hv];rfl
    rw[hw];simp only[Region.wanted,hg,hyj];cases b0<;>rfl
   ·have hjl:j<ls.length:=by have:=hR.dep j hj;omega
    have hv:=hgv j b hgj _ _ _ (h1 j hjl (hdl j hj) fun k hk _=>by unfold zdv;rw[hhj];simp);have ht:=h4 j s hs' (hdl j hj);have hyj:yielded ls.toArray a'.tmps j=some b:=by
     unfold yielded;have e1:((ls.toArray[j]?).bind (·.dst))=some s:=by
      unfold zaf at hs';simpa using hs'
     rw[e1];simp only[wfj,ht,hv]
    rw[hw];simp only[Region.wanted,hg,hyj];cases b<;>cases b0<;>rfl
  unfold zix;rw[ho];simp only;rw[hy];have hst0:=hstep i o ho';cases hwt:wt.getD i true with
  |false =>
   rw[hwt]at hst0;simp only[waz,if_false]at hst0 ⊢;exact next undef W (by unfold Eff;split;exact Below.refl _ _;exact Below.refl _ _) (by cases o.dst<;>exact hst0.1 _ _)
  |true =>
  rw[hwt]at hst0;simp only[if_true]at hst0 ⊢;have hw:=hst0 val _ W hE hsz0 (fun j hj=>hdepS j (wdn _ hj)) (fun j hj=>hdepS j (wdo _ hj)) hH hearly;unfold zjd at hw;unfold zp8;rw[hx];generalize (execOp (zam ls val a (zae o)).eval o).run P W=r at *;cases r with
  |ok x W' =>
   cases x<;>simp only at hw ⊢
   case value v=>exact next v W' hw.1 hw.2
   case skip=>exact next undef W' hw.1 (by cases o.dst<;>exact hw.2)
   case enter f args =>
    refine wa8 hw fun e W'' ⟨v,he,q1,q2⟩=>?_
    subst he;exact⟨v,rfl,next v W'' q1 q2⟩
  |halt x W'=>cases hw
 intro fuel
 induction fuel with
 |zero =>
  intro listed a' W hs hf hz hW;have hall:∀j,j<ls.length→listed.getD j false=true:=fun j hj=>by
   have h0:(List.range ls.length).countP (fun j=>!listed.getD j false)=0:=by omega
   rw[wbt]at h0;have:=h0 j (wdz.2 hj);simpa using this
  refine⟨?_,fin listed a' W hs hW hall⟩
  rcases hr:Region.ready .any ls.toArray listed with _|⟨k,rs⟩
  ·rfl
  ·exfalso
   have hk:k∈Region.ready .any ls.toArray listed:=by rw[hr];simp
   obtain⟨g1,ok,g2,_⟩:=mem_ready.1 hk;have hlt:k<ls.length:=by have:=(wad.1 g2).1;simpa using this
   have hka:=hall k hlt;have:k<listed.size:=by omega
   simp[this]at g1 hka;rw[g1]at hka;cases hka
 |succ fuel ih =>
  intro listed a' W hs hf hz hW;refine⟨fun h0=>fin listed a' W hs hW (zd6 listed hs h0),fun i hi=>?_⟩;refine step listed a' W i _ hs hz hW hi fun a2 W2 hz2 hW2=>ih _ a2 W2 (by simpa using hs) ?_ hz2 hW2
  obtain⟨hl,o,ho,_⟩:=mem_ready.1 hi;have hilt:i<ls.length:=by have:=(wad.1 ho).1;simpa using this
  have his:i<listed.size:=by omega
  have hcnt:=ziv (fun j=>!listed.getD j false) (fun j=>!(listed.setIfInBounds i true).getD j false) i ls.length (fun j hj=>by rw[getD_set_ne false (wff hj)]) (by simp[his]at hl ⊢;exact hl) (by simp[his]) hilt;omega
def zhu(P:Program)(w:World)(B:Nat)(ls:List Oper)(S:Nat→Sq)(a:Act):List Bool→List (Bool×Bool)→List Oper→List Sq→Prop
 |_,_,[],_=>True
 |_,_,_::_,[]=>False
 |[],_,_::_,_::_=>False
 |_,[],_::_,_::_=>False
 |true::ws,b::bs,o::os,s::ss=>z9r P w B ls S a b.1 b.2 o s∧zhu P w B ls S a ws bs os ss
 |false::ws,_::bs,_::os,s::ss=>((∀l W,s.p l undef W)∧∀l v W,s.p l v W→v=undef)∧zhu P w B ls S a ws bs os ss
theorem zhu.at0{P:Program}{w:World}{B:Nat}{ls:List Oper}{S:Nat→Sq}{a:Act}:∀{ws:List Bool} {st:List (Bool×Bool)} {os:List Oper} {ss:List Sq},zhu P w B ls S a ws st os ss→∀{j:Nat} {o:Oper},os[j]?=some o→if ws.getD j true then z9r P w B ls S a (st.getD j (false,false)).1 (st.getD j (false,false)).2 o (ss.getD j sqT)else (∀l W,(ss.getD j sqT).p l undef W)∧∀l v W,(ss.getD j sqT).p l v W→v=undef
 |_,_,[],_,_,j,o,h=>by simp at h
 |ws,bs,x::os,[],hs,_,_,_=>by cases ws<;>cases bs<;>first|exact False.elim hs|(rename_i b _ _ _;cases b<;>exact False.elim hs)
 |[],bs,x::os,s::ss,hs,_,_,_=>by cases bs<;>exact False.elim hs
 |b::ws,[],x::os,s::ss,hs,_,_,_=>by cases b<;>exact False.elim hs
 |true::ws,b::bs,x::os,s::ss,hs,0,o,h=>by
  simp at h;subst h;simpa using hs.1
 |false::ws,b::bs,x::os,s::ss,hs,0,o,h=>by simpa using hs.1
 |true::ws,b::bs,x::os,s::ss,hs,j+1,o,h=>by
  have:=zhu.at0 hs.2 (j:=j) (o:=o) (by simpa using h);simpa using this
 |false::ws,b::bs,x::os,s::ss,hs,j+1,o,h=>by
  have:=zhu.at0 hs.2 (j:=j) (o:=o) (by simpa using h);simpa using this
theorem z0v{P:Program}{Q:Act→World→Prop}{a:Act}{w:World}{ls:List Oper}(B:Nat)(hBw:B≤w.heap.size)(S:List Sq)(hd st keep ea:List Bool)(hB:zv5 ls a.tmps.size=true)(wt:List Bool)(gv:List (Option Bool))(hG:zk8 ls wt gv hd=true)(hgv:zmy gv S)
  (hO:zct ls (za4 ls) hd st=true) (hK:ze0 ls.length (za4 ls) hd st=keep) (hEa:zbg ls.length (za4 ls) st=ea) (hsl:st.length=ls.length) (hhd:S.map (·.hard)=hd∧usB ls S=true∧usO ls.length S (za4 ls) hd st=true)
  (hstep:zhu P w B ls (fun i=>S.getD i sqT) a wt (st.zip ea) ls S)
  (D:List (Option Tmp)) (hDs:ls.map (·.dst)=D) (hlen:S.length=ls.length)
  (hend:∀(val:Nat→Value) (W:World),Below B w W→w.heap.size≤W.heap.size→zf8 keep S 0 val W→Q (za9 D 0 val a) W) :
  wpAnyL P .any ls.toArray Q ls.toArray.size (Array.replicate ls.toArray.size false) a { w with drawn:=w.drawn+1 }:=by
 have hend:∀(val:Nat→Value) (W:World),Below B w W→(∀j,j<ls.length→(∀k,k<ls.length→zdv (za4 ls) hd st k j=false)→(S.getD j sqT).p ((S.getD j sqT).us.map val) (val j) W)→Q (zam ls val a (List.range ls.length)) W:=fun val W hE hS=>by
  rw[wd5,ziw ls 0 a (fun j o hj=>by rw[wfc];unfold zaf;rw[hj];rfl),hDs];refine hend val W hE hE.size (ztx S 0 fun j hj hk=>?_);rw[wfc]at hk ⊢;refine hS j (by omega) fun k hkl=>?_
  rw[←hK]at hk;unfold ze0 at hk;have hjl:j<ls.length:=by omega
  simp only[wch,wcq,wcr hjl,wfn,wfk]at hk;have:=wbk.1 hk k (wdz.2 hkl);simpa using this
 refine zald (A:=za4 ls) (hd:=hd) (st:=st) hBw (S:=fun i=>S.getD i sqT) hB hG hgv.at hO (fun j hj=>?_) (fun i o hi k hk=>by
   have h1:=wbk.1 hhd.2.1 i (wdz.2 (wcp.1 hi).1);rw [hi] at h1;have h2:=wbk.1 h1 k hk;simpa using h2) (fun i hi j hj k hk=>by
   have h1:=wbk.1 (wbk.1 (wbk.1 hhd.2.2 i (wdz.2 hi)) j hj) k (wdz.2 hk);simp only[wa6,wa3,beq_iff_eq]at h1
   rcases h1 with(h1|h1)|h1
   ·exact .inl h1
   ·exact .inr (.inl h1)
   ·exact .inr (.inr h1)) (fun i o hi=>?hst) hend _ _ _ _ (by simp) ?_ (weq _) ⟨Below.drew (Below.refl _ _),fun j o _ hl=>?_,fun _=>Ext.dr (Below.refl _ _),fun _=>undef,fun j _ hl=>?_,rfl,rfl,fun j s _ hl=>?_,fun _ _=>rfl⟩
 ·rw[←hhd.1]at hj
  rcases weu j S.length with h|h
  ·simpa[wch,h]using hj
  ·simp[h,sqT]
 ·have h1:=hstep.at0 hi
  have hil:i<ls.length:=(wcp.1 hi).1;have hel:ea.length=ls.length:=by rw[←hEa];simp[zbg]
  have hz:(st.zip ea).getD i (false,false)=(st.getD i false,ea.getD i false):=by
   simp only[wch,wcn (show i<(st.zip ea).length by simp;omega),wcn (show i<st.length by omega),wcn (show i<ea.length by omega),wfk,wc1]
  rw[hz]at h1;rw[hEa];exact h1
 ·have:=wbv (p:=fun j=>!((Array.replicate ls.toArray.size false).getD j false)) (l:=List.range ls.length)
  simpa using this
 ·rw[zaw]at hl;cases hl
 ·rw[zaw]at hl;cases hl
 ·rw[zaw]at hl;cases hl
theorem zau{P:Program}{id:Nat}{Q:Exit→Act→World→Prop}{a:Act}{w:World}{ls:List Oper}(B:Nat)(hBw:B≤w.heap.size)(S:List Sq)(hd st keep ea:List Bool)(wt:List Bool)(gv:List (Option Bool))(hm:P.follows .mixedOrders=true)(hB:zv5 ls a.tmps.size=true)(hG:zk8 ls wt gv hd=true)(hgv:zmy gv S)
  (hO:zct ls (za4 ls) hd st=true) (hK:ze0 ls.length (za4 ls) hd st=keep) (hEa:zbg ls.length (za4 ls) st=ea) (hsl:st.length=ls.length) (hhd:S.map (·.hard)=hd∧usB ls S=true∧usO ls.length S (za4 ls) hd st=true)
  (hstep:zhu P w B ls (fun i=>S.getD i sqT) a wt (st.zip ea) ls S)
  (D:List (Option Tmp)) (hDs:ls.map (·.dst)=D) (hlen:S.length=ls.length)
  (hend:∀(val:Nat→Value) (W:World),Below B w W→w.heap.size≤W.heap.size→zf8 keep S 0 val W→Q .normal (za9 D 0 val a) W) :
  (Code.region id ls.toArray true).wp P Q a w:=wp_region_any hm (zfk _ _ _ _ (z0v B hBw S hd st keep ea hB wt gv hG hgv hO hK hEa hsl hhd hstep D hDs hlen hend))
def zsb(md:Region.Mode):List Oper→List Oper→Bool
 |_,[]=>true
 | head,o :: tl=>lastB md head.toArray o && (match o.guard with
  |none=>true
  |some (j,_)=>decide (j<head.length))&&zsb md (head++[o]) tl
section
variable{F:Fence}{n:Nat}{P:Program}{md:Region.Mode}
theorem ziz{ops:Array Oper}{Q Q':Exit→Act→World→Prop}(h:∀e a w,Q e a w→Q' e a w):∀(fuel:Nat) (listed:Array Bool) (a:Act) (w:World),wpAnyIn F n P md ops Q fuel listed a w→wpAnyIn F n P md ops Q' fuel listed a w
 |0,_,_,_,hh=>⟨hh.1,h _ _ _ hh.2⟩
 | fuel+1,listed,a,w,hh=>⟨fun h0=>h _ _ _ (hh.1 h0),fun i hi=>by
   have h2:=hh.2 i hi;unfold wpOpIn at h2 ⊢
   split at h2
   ·rename_i ho;try simp only[ho]
    exact ziz h fuel _ _ _ h2
   ·rename_i o ho
    try simp only[ho]
    split at h2
    ·rename_i hw
     rw[if_pos hw];exact zp3 (fun e a w _ hq=>h e a w hq) (Oper.wpIn_mono (fun a w=>ziz h fuel _ a w) h2)
    ·rename_i hw;rw[if_neg hw];exact⟨h2.1,ziz h fuel _ _ _ h2.2⟩⟩
theorem zrt{ops:Array Oper}{Q:Exit→Act→World→Prop}{a:Act}{w:World}:∀(tl head:List Oper),zsb md head tl=true→(∀j,j<(head++tl).length→(head++tl)[j]?=ops[j]?) →
  wpAnyIn F n P md head.toArray (Exit.then (fun a w=>wpListIn F n P ops Q tl a w) Q) head.length (Array.replicate head.length false) a w→wpAnyIn F n P md (head++tl).toArray Q (head++tl).length (Array.replicate (head++tl).length false) a w
 |[],head,_,_,h=>by
  rw[wbn];refine ziz (fun e a w hq=>?_) _ _ _ _ h;cases e<;>exact hq
 |o::tl,head,hB,ho,h=>by
  simp only[zsb,waw]at hB;obtain⟨⟨h1,h2⟩,h3⟩:=hB;have e:head++o::tl=(head++[o])++tl:=by simp
  rw[e]at ho ⊢;refine zrt (ops:=ops) tl (head++[o]) h3 ho ?_
  have e1:(head++[o]).toArray=head.toArray.push o:=by simp
  have e2:Array.replicate (head++[o]).length false=(Array.replicate head.length false).push false:=by rw[wc3];exact wai
  rw[e1,e2,wc3];refine zit h1 _ _ _ _ (by simp) (fun j oj _ hl=>by rw[zaw]at hl;cases hl) ?_
  refine ziz (fun e a w hq=>?_) _ _ _ _ h;have hmq:∀e a w,e≠Exit.normal→Q e a w→Exit.then (fun a w=>wpListIn F n P ops Q tl a w) Q e a w:=fun e a w hne hq=>by cases e<;>first|exact absurd rfl hne|exact hq
  have hw:Region.wanted o (yielded (head.toArray.push o) a.tmps)=Region.wanted o (yielded ops a.tmps):=by
   unfold Region.wanted;cases hg:o.guard with
   |none=>rfl
   |some jw =>
    obtain⟨j,want⟩:=jw;rw[hg]at h2;have hj:j<head.length:=by simpa using h2
    have hq1:=ho j (by simp;omega);have hq2:(head.toArray.push o)[j]?=ops[j]?:=by
     rw[←hq1,wae,if_neg (by simp;omega),wbm,wcj hj];simp
    have hy:yielded (head.toArray.push o) a.tmps j=yielded ops a.tmps j:=by
     unfold yielded;rw[hq2]
    simp only[hy]
  cases e with
  |normal =>
   show wpOpIn F n P (head.toArray.push o) _ head.toArray.size _ a w;have hq:wpListIn F n P ops Q (o::tl) a w:=hq;unfold wpListIn at hq;unfold wpOpIn;have hi:(head.toArray.push o)[head.toArray.size]?=some o:=by simp
   rw[hi];simp only[hw]
   split at hq
   ·rename_i hc
    rw[if_pos hc];exact zp3 (fun e a w hne hq=>hmq e a w hne hq) hq
   ·rename_i hc
    rw[if_neg hc];exact hq
  |_=>exact hq
end
theorem zmd{P:Program}{n:Nat}{ro:Option Nat}{id:Nat}{Q:Exit→Act→World→Prop}{a:Act}{w:World}{ls tl:List Oper}(k:Nat)(htl:ls.drop k=tl)(hT:zsb .any (ls.take k) tl=true)
  (B:Nat) (hBw:B≤w.heap.size) (S:List Sq) (hd st keep ea:List Bool) (wt:List Bool) (gv:List (Option Bool)) (hm:P.follows .mixedOrders=true) (hB:zv5 (ls.take k) a.tmps.size=true) (hG:zk8 (ls.take k) wt gv hd=true) (hgv:zmy gv S)
  (hO:zct (ls.take k) (za4 (ls.take k)) hd st=true) (hK:ze0 (ls.take k).length (za4 (ls.take k)) hd st=keep) (hEa:zbg (ls.take k).length (za4 (ls.take k)) st=ea) (hsl:st.length=(ls.take k).length) (hhd:S.map (·.hard)=hd∧usB (ls.take k) S=true∧usO (ls.take k).length S (za4 (ls.take k)) hd st=true)
  (hstep:zhu P w B (ls.take k) (fun i=>S.getD i sqT) a wt (st.zip ea) (ls.take k) S)
  (D:List (Option Tmp)) (hDs:(ls.take k).map (·.dst)=D) (hlen:S.length=(ls.take k).length)
  (hend:∀(val:Nat→Value) (W:World),Below B w W→w.heap.size≤W.heap.size→zf8 keep S 0 val W→wpListIn (FW ro) n P ls.toArray Q tl (za9 D 0 val a) W) :
  (Code.region id ls.toArray true).wpIn (FW ro) n P Q a w:=by
 subst htl;refine wpIn_region_any hm ?_
 have h:=zrt (F:=FW ro) (n:=n) (P:=P) (ops:=ls.toArray) (Q:=Q) (a:=a) (w:={ w with drawn:=w.drawn+1 }) (ls.drop k) (ls.take k) hT (fun j _=>by rw[web];simp);rw[web]at h;refine h ?_
 have h5:=ze7 (n:=n) (ro:=ro) (Q:=Exit.then (fun a w=>wpListIn (FW ro) n P ls.toArray Q (ls.drop k) a w) Q) _ _ _ _ (z0v (Q:=fun a w=>wpListIn (FW ro) n P ls.toArray Q (ls.drop k) a w) B hBw S hd st keep ea hB wt gv hG hgv hO hK hEa hsl hhd hstep D hDs hlen hend);simpa using h5
theorem zme{P:Program}{n:Nat}{id:Nat}{Q:Exit→Act→World→Prop}{a:Act}{w:World}{ls tl:List Oper}(k:Nat)(htl:ls.drop k=tl)(hT:zsb .any (ls.take k) tl=true)
  (B:Nat) (hBw:B≤w.heap.size) (S:List Sq) (hd st keep ea:List Bool) (wt:List Bool) (gv:List (Option Bool)) (hm:P.follows .mixedOrders=true) (hB:zv5 (ls.take k) a.tmps.size=true) (hG:zk8 (ls.take k) wt gv hd=true) (hgv:zmy gv S)
  (hO:zct (ls.take k) (za4 (ls.take k)) hd st=true) (hK:ze0 (ls.take k).length (za4 (ls.take k)) hd st=keep) (hEa:zbg (ls.take k).length (za4 (ls.take k)) st=ea) (hsl:st.length=(ls.take k).length) (hhd:S.map (·.hard)=hd∧usB (ls.take k) S=true∧usO (ls.take k).length S (za4 (ls.take k)) hd st=true)
  (hstep:zhu P w B (ls.take k) (fun i=>S.getD i sqT) a wt (st.zip ea) (ls.take k) S)
  (D:List (Option Tmp)) (hDs:(ls.take k).map (·.dst)=D) (hlen:S.length=(ls.take k).length)
  (hend:∀(val:Nat→Value) (W:World),Below B w W→w.heap.size≤W.heap.size→zf8 keep S 0 val W→wpListIn Fence.wide n P ls.toArray Q tl (za9 D 0 val a) W) :
  (Code.region id ls.toArray true).wpIn Fence.wide n P Q a w:=zmd (ro:=none) k htl hT B hBw S hd st keep ea wt gv hm hB hG hgv hO hK hEa hsl hhd hstep D hDs hlen hend
def zxa(md:Region.Mode):List Oper→List Oper→Bool
 |_,[]=>true
 |head,o::tl=>lastB md head.toArray o&&o.guard.isNone&&zxa md (head++[o]) tl
section
variable{P:Program}{md:Region.Mode}
theorem zlk{ops:Array Oper}{Q Q':Exit→Act→World→Prop}(h:∀e a w,Q e a w→Q' e a w):∀(fuel:Nat) (listed:Array Bool) (a:Act) (w:World),wpAny P md ops Q fuel listed a w→wpAny P md ops Q' fuel listed a w
 |0,_,_,_,hh=>⟨hh.1,h _ _ _ hh.2⟩
 | fuel+1,listed,a,w,hh=>⟨fun h0=>h _ _ _ (hh.1 h0),fun i hi=>by
   have h2:=hh.2 i hi;unfold wpOp at h2 ⊢
   split at h2
   ·rename_i ho;try simp only[ho]
    exact zlk h fuel _ _ _ h2
   ·rename_i o ho
    try simp only[ho]
    split at h2
    ·rename_i hw
     rw[if_pos hw]
     rcases h2 with h2|⟨h2,a2,w2,h3⟩
     ·exact .inl (zv1 (fun e a w _ hq=>h e a w hq) (Oper.wp_mono (fun a w=>zlk h fuel _ a w) h2))
     ·exact .inr ⟨h2,a2,w2,h _ _ _ h3⟩
    ·rename_i hw;rw[if_neg hw];exact zlk h fuel _ _ _ h2⟩
theorem zu9{ops:Array Oper}{Q:Exit→Act→World→Prop}{a:Act}{w:World}:∀(tl head:List Oper),zxa md head tl=true →
  wpAny P md head.toArray (Exit.then (fun a w=>wpList P ops Q tl a w) Q) head.length (Array.replicate head.length false) a w→wpAny P md (head++tl).toArray Q (head++tl).length (Array.replicate (head++tl).length false) a w
 |[],head,_,h=>by
  rw[wbn];refine zlk (fun e a w hq=>?_) _ _ _ _ h;cases e<;>exact hq
 |o::tl,head,hB,h=>by
  simp only[zxa,waw]at hB;obtain⟨⟨h1,h2⟩,h3⟩:=hB;have e:head++o::tl=(head++[o])++tl:=by simp
  rw[e];refine zu9 (ops:=ops) tl (head++[o]) h3 ?_
  have e1:(head++[o]).toArray=head.toArray.push o:=by simp
  have e2:Array.replicate (head++[o]).length false=(Array.replicate head.length false).push false:=by rw[wc3];exact wai
  rw[e1,e2,wc3];refine zw5 h1 _ _ _ _ (by simp) (fun j oj _ hl=>by rw[zaw]at hl;cases hl) ?_
  refine zlk (fun e a w hq=>?_) _ _ _ _ h;have hg:o.guard=none:=by simpa using h2
  have hmq:∀e a w,e≠Exit.normal→Q e a w→Exit.then (fun a w=>wpList P ops Q tl a w) Q e a w:=fun e a w hne hq=>by cases e<;>first|exact absurd rfl hne|exact hq
  cases e with
  |normal =>
   show wpOp P (head.toArray.push o) _ head.toArray.size _ a w;have hq:wpList P ops Q (o::tl) a w:=hq;unfold wpList at hq;unfold wpOp;have hi:(head.toArray.push o)[head.toArray.size]?=some o:=by simp
   rw[hi];have hw:∀y,Region.wanted o y=true:=fun y=>by simp[Region.wanted,hg]
   simp only[hw,if_true]at hq ⊢
   rcases hq with hq|⟨hq,a2,w2,h4⟩
   ·exact .inl (zv1 (fun e a w hne hq=>hmq e a w hne hq) hq)
   ·exact .inr ⟨hq,a2,w2,hmq _ _ _ (by simp) h4⟩
  |_=>exact hq
end
def z28(J:World→Prop)(w:World)(B:Nat)(ls:List Oper)(S:Nat→Sq)(A:List (List Nat))(hd st:List Bool)(a:Act)(listed:Array Bool)(a':Act)(W:World):Prop :=
 Below B w W∧J W∧zw4 ls listed∧((∀k,k<ls.length→listed.getD k false=true→st.getD k false=false)→Ext w W)∧∃val:Nat→Value,(∀j,j<ls.length→listed.getD j false=true→zahh ls.length A hd st listed j→(S j).p ((S j).us.map val) (val j) W)∧a'.defers=a.defers∧a'.tmps.size=a.tmps.size ∧
  (∀j s,zaf ls j=some s→listed.getD j false=true→a'.tmps[s]?=some (val j))∧(∀s,(∀j,listed.getD j false=true→zaf ls j≠some s)→a'.tmps[s]?=a.tmps[s]?)
def zje(J:World→Prop)(B:Nat)(strong:Bool)(W W':World):Prop:=if strong then Below B W W'∧J W' else Ext W W'
def zzd(J:World→Prop)(P:Program)(B:Nat)(strong:Bool)(o:Oper)(ρ:Operand→Value)(W:World)(val:Nat→Value)(s:Sq):Prop :=
 match (execOp ρ o).run P W with
 |.ok (.value v) W'=>zje J B strong W W'∧s.p (s.us.map val) (match o.dst with|some _=>v|none=>undef) W'
 |.ok .skip W'=>zje J B strong W W'∧s.p (s.us.map val) undef W'
 |.ok (.enter f args) W'=>Calls P f args W' fun e W''=>∃v,e=.returned v∧zje J B strong W W''∧s.p (s.us.map val) (match o.dst with|some _=>v|none=>undef) W''
 |_=>False
def z9s(J:World→Prop)(P:Program)(w:World)(B:Nat)(ls:List Oper)(S:Nat→Sq)(a:Act)(strong early:Bool)(o:Oper)(s:Sq):Prop :=
 ∀(val:Nat→Value) (ρ:Operand→Value) (W:World),Below B w W→J W→w.heap.size≤W.heap.size→(∀j∈zhs ls o,(S j).p ((S j).us.map val) (val j) W)→Holds ls a o val ρ→(early=true→Ext w W)→zzd J P B strong o ρ W val s
theorem zje.below{J:World→Prop}{B:Nat}{s:Bool}{W W':World}(h:zje J B s W W')(hB:B≤W.heap.size):Below B W W':=by
 unfold zje at h;cases s
 ·exact h.mono hB
 ·exact h.1
theorem zje.keeps{J:World→Prop}(hm:∀W W',J W→Ext W W'→J W'){B:Nat}{s:Bool}{W W':World}(h:zje J B s W W')(hJ:J W):J W':=by
 unfold zje at h;cases s
 ·exact hm _ _ hJ h
 ·exact h.2
theorem zale{J:World→Prop}(hJm:∀W W',J W→Ext W W'→J W'){P:Program}{w:World}{B:Nat}(hBw:B≤w.heap.size){ls:List Oper}{S:Nat→Sq}{A:List (List Nat)}{hd st:List Bool}{a:Act}{Q:Act→World→Prop}(hB:zf7 ls a.tmps.size=true)(hO:zct ls A hd st=true)
  (hhd:∀j,hd.getD j true=true→(S j).hard=true) (hus:∀i o,ls[i]?=some o→∀k∈(S i).us,k∈zae o)
  (hstep:∀i o,ls[i]?=some o→z9s J P w B ls S a (st.getD i false) ((zbg ls.length A st).getD i false) o (S i))
  (hend:∀(val:Nat→Value) (W:World),Below B w W→J W→(∀j,j<ls.length→(∀k,k<ls.length→zdv A hd st k j=false)→(S j).p ((S j).us.map val) (val j) W)→Q (zam ls val a (List.range ls.length)) W) :
  ∀(fuel:Nat) (listed:Array Bool) (a':Act) (W:World),listed.size=ls.length→(List.range ls.length).countP (fun j=>!listed.getD j false)≤fuel→w.heap.size≤W.heap.size→z28 J w B ls S A hd st a listed a' W →
   wpAnyL P .any ls.toArray Q fuel listed a' W:=by
 simp only[zct,waw]at hO;obtain⟨hA,hO⟩:=hO;have fin:∀(listed:Array Bool) (a':Act) (W:World),listed.size=ls.length→z28 J w B ls S A hd st a listed a' W→(∀j,j<ls.length→listed.getD j false=true)→Q a' W:=by
  intro listed a' W hs ⟨hE,hJW,hc,_,val,h1,h2,h3,h4,h5⟩ hall;have e:a'=zam ls val a (List.range ls.length):=by
   refine ztv (by rw[h2,zgh]) (by rw[h3,ziu]) fun s=>?_
   by_cases hx:∃j,j<ls.length∧zaf ls j=some s
   ·obtain⟨j,hj,hd⟩:=hx
    have hj':ls[j]?=some ls[j]:=wcn hj;have hR:=zcq hB hj';have hdst:ls[j].dst=some s:=by unfold zaf at hd;rw[hj']at hd;exact hd
    rw[h4 j s hd (hall j hj),zdb val hd _ _ (fun k hk hd2=>?_) (hR.d s hdst) (.inl (wdz.2 hj))]
    by_cases hkj:k=j
    ·exact hkj
    ·exact absurd hd2 (hR.ne k (wdz.1 hk) hkj s hdst)
   ·rw[h5 s fun j hl hd=>hx ⟨j,?_,hd⟩,zcr ls val _ _ fun j hj hd=>hx ⟨j,wdz.1 hj,hd⟩]
    unfold zaf at hd
    rcases weu j ls.length with hj|hj
    ·exact hj
    ·rw[wco hj]at hd;cases hd
  rw[e];exact hend val W hE hJW fun j hj hk=>h1 j hj (hall j hj) fun k hkl _=>hk k hkl
 have zd6:∀(listed:Array Bool),listed.size=ls.length→Region.ready .any ls.toArray listed=[]→∀j,j<ls.length→listed.getD j false=true:=by
  intro listed hs h0 j
  induction j using Nat.strongRecOn with
  |_ j ih =>
   intro hj;cases hl:listed.getD j false with
   |true=>rfl
   |false =>
    exfalso;have hj':ls[j]?=some ls[j]:=wcn hj;have hR:=zcq hB hj';have hin:j∈Region.ready .any ls.toArray listed:=by
     refine mem_ready.2 ⟨?_,ls[j],by simp[hj],fun e he hb=>?_⟩
     ·have hjs:j<listed.size:=by omega
      simp[hjs]at hl ⊢;exact hl
     ·have hd:e.on∈zae ls[j]:=wdv.2 ⟨e,wds.2 ⟨by simpa using he,hb⟩,rfl⟩
      have hlt:=hR.dep _ hd;exact ih _ hlt (by omega)
    rw[h0]at hin;cases hin
 have step:∀(listed:Array Bool) (a':Act) (W:World) (i:Nat) (K:Act→World→Prop),listed.size=ls.length→w.heap.size≤W.heap.size→z28 J w B ls S A hd st a listed a' W→i∈Region.ready .any ls.toArray listed →
   (∀a2 W2,w.heap.size≤W2.heap.size→z28 J w B ls S A hd st a (listed.setIfInBounds i true) a2 W2→K a2 W2)→zix P ls.toArray i K a' W:=by
  intro listed a' W i K hs hsz0 ⟨hE,hJW,hc,hx0,val,h1,h2,h3,h4,h5⟩ hi hK;obtain⟨hl,o,ho,hdeps⟩:=mem_ready.1 hi;have ho':ls[i]?=some o:=by simpa using ho
  have hilt:i<ls.length:=(wcp.1 ho').1;have hR:=zcq hB ho';have hdl:∀j∈zae o,listed.getD j false=true:=fun j hj=>by
   obtain⟨e,he,rfl⟩:=wdv.1 hj;obtain⟨he1,he2⟩:=wds.1 he;exact hdeps e (by simpa using he1) he2
  have hilf:listed.getD i false=false:=by
   have:i<listed.size:=by omega
   simp[this]at hl ⊢;exact hl
  have hnl:∀{b:Prop},listed.getD i false=true→b:=fun h=>by rw[hilf]at h;cases h
  have hanc:=zp7 hB hA hc;have hev:∀x∈o.op.operands,a'.eval x=(zam ls val a (zae o)).eval x:=fun x hx=>by
   cases x with
   |tmp s =>
    have hh:a'.tmps[s]?=(zam ls val a (zae o)).tmps[s]?:=by
     rcases hR.x s hx with⟨j,hj,hd⟩|hno
     ·have hji:=hR.dep j hj
      have hj':ls[j]?=some (ls[j]'(by omega)):=wcn (by omega);have hRj:=zcq hB hj';have hdst:(ls[j]'(by omega)).dst=some s:=by unfold zaf at hd;rw[hj']at hd;exact hd
      rw[h4 j s hd (hdl j hj),zdb val hd _ _ (fun k hk hd2=>?_) (hRj.d s hdst) (.inl hj)]
      by_cases hkj:k=j
      ·exact hkj
      ·exact absurd hd2 (hRj.ne k (by have:=hR.dep k hk;omega) hkj s hdst)
     ·rw[h5 s fun j hl hd=>?_,zcr ls val _ _ fun j hj=>hno j (by have:=hR.dep j hj;omega)]
      rcases weu j ls.length with hj|hj
      ·exact hno j hj hd
      ·unfold zaf at hd;rw[wco hj]at hd;cases hd
    simp only[Act.eval,wab,hh]
   |_=>rfl
  have hx:=execOp_congr o hR.s hev;have hH:Holds ls a o val (zam ls val a (zae o)).eval:=by
   refine⟨fun j hj t ht=>?_,fun t ht=>?_,fun _=>rfl,fun _=>rfl⟩
   ·have hji:=hR.dep j hj
    have hj':ls[j]?=some (ls[j]'(by omega)):=wcn (by omega);have hRj:=zcq hB hj';have hdst:(ls[j]'(by omega)).dst=some t:=by unfold zaf at ht;rw[hj']at ht;exact ht
    have:=zdb val ht (zae o) a (fun k hk hd2=>by
     by_cases hkj:k=j
     ·exact hkj
     ·exact absurd hd2 (hRj.ne k (by have:=hR.dep k hk;omega) hkj t hdst)) (hRj.d t hdst) (.inl hj)
    simp[Act.eval,this]
   ·have:=zcr ls val (zae o) a (fun j hj=>ht j hj)
    simp only[Act.eval,wab,this]
  have hdepS:∀j∈zhs ls o,(S j).p ((S j).us.map val) (val j) W:=fun j hju=>by
   have hj:j∈zae o:=(wds.1 hju).1;refine h1 j (by have:=hR.dep j hj;omega) (hdl j hj) fun k hk hlk=>?_
   cases hkl:zdv A hd st k j with
   |false=>rfl
   |true =>
    have q:=wbk.1 hO i (wdz.2 hilt);rw[ho']at q;have q2:=wbk.1 (wbk.1 q j hju) k (wdz.2 hk);rw[hkl]at q2;simp only[wa5,wa1,wa6]at q2
    rcases q2 with q2|q2
    ·have:k=i:=by simpa using q2
     subst this;exact hnl hlk
    ·exact hnl (hanc k hk hlk i (by simpa using q2))
  have hw:=hstep i o ho' val _ W hE hJW hsz0 hdepS hH fun he=>hx0 fun k hk hlk=>by
   simp only[zbg,wch,wcq,wcr hilt,wfn,wfk]at he;have q:=wbk.1 he k (wdz.2 hk);simp only[wa6,wa3]at q
   rcases q with(q|q)|q
   ·simpa[wch]using q
   ·have:k=i:=by simpa using q
    subst this;exact hnl hlk
   ·exact hnl (hanc k hk hlk i (by simpa[wch]using q))
  have hwant:∀y,Region.wanted o y=true:=fun y=>by simp[Region.wanted,hR.g]
  unfold zix;rw[ho];simp only;rw[if_pos (hwant _)];have hupd:∀(j:Nat) (oj:Oper),ls[j]?=some oj→(listed.getD j false=true∨j=i)→(S j).us.map (fun k=>if k=i then (match o.dst with|some _=>undef|none=>undef)else val k)=(S j).us.map val∧∀u:Value,(S j).us.map (fun k=>if k=i then u else val k)=(S j).us.map val:=fun j oj hj hlj=>by
   have key:∀u:Value,(S j).us.map (fun k=>if k=i then u else val k)=(S j).us.map val:=fun u=>wdf fun k hk=>by
    have hkd:=hus j oj hj k hk;have hkl:listed.getD k false=true:=by
     rcases hlj with h|rfl
     ·exact hc j oj hj h k hkd
     ·rw[ho']at hj;cases hj;exact hdl k hkd
    have:k≠i:=fun e=>by subst e;exact hnl hkl
    rw[if_neg this]
   exact⟨key _,key⟩
  have next:∀v W',zje J B (st.getD i false) W W'→(S i).p ((S i).us.map val) (match o.dst with|some _=>v|none=>undef) W'→K (a'.put o.dst v) W':=fun v W' hE' hS=>by
   have hsz1:W.heap.size≤W'.heap.size:=by
    unfold zje at hE'
    split at hE'
    ·exact hE'.1.size
    ·exact hE'.size
   refine hK _ _ (by omega) ⟨hE.trans (hE'.below (by omega)),hE'.keeps hJm hJW,fun j oj hj hlj d hd=>?_,fun hns=>?_,fun j=>if j=i then (match o.dst with|some _=>v|none=>undef)else val j,fun j hj hlj hal=>?_,by rw[put_defers,h2],by rw[zjc,h3],fun j s hd hlj=>?_,fun s hno=>?_⟩
   ·by_cases hji:j=i
    ·subst hji
     rw[ho']at hj;cases hj;exact getD_set_true (hdl d hd)
    ·rw[getD_set_ne false (wff hji)]at hlj
     exact getD_set_true (hc j oj hj hlj d hd)
   ·have hst:=hns i hilt (by simp[hs,hilt])
    rw[hst]at hE';exact(hx0 fun k hk hlk=>hns k hk (getD_set_true hlk)).trans' hE'
   ·by_cases hji:j=i
    ·subst hji;rw[(hupd j o ho' (.inr rfl)).2];simp only[if_true];exact hS
    ·rw[getD_set_ne false (wff hji)]at hlj
     rw[(hupd j _ (wcn hj) (.inl hlj)).2];simp only[hji,if_false];have hold:=h1 j hj hlj fun k hk hlk=>hal k hk (getD_set_true hlk)
     have hki:=hal i hilt (by simp[hs,hilt]);cases hst:st.getD i false with
     |false =>
      rw[hst]at hE';exact(S j).m _ _ _ _ hold hE'
     |true =>
      unfold zdv at hki;rw[hst]at hki;have hij:(i == j)=false:=by simpa using fun h=>hji h.symm
      rw[hij]at hki;simp only[wa7,wa4,wax,wav,wa2]at hki
      rcases hki with hki|hki
      ·exact(S j).hm (hhd j hki) _ _ _ _ hold
      ·exact hnl (hanc j hj hlj i (by simpa using hki))
   ·by_cases hji:j=i
    ·subst hji
     have hdst:o.dst=some s:=by unfold zaf at hd;rw[ho']at hd;exact hd
     simp only[if_true,hdst];exact zr1 _ _ (by rw[h3];exact hR.d s hdst)
    ·rw[getD_set_ne false (wff hji)]at hlj
     simp only[hji,if_false];rw[zf3,h4 j s hd hlj];intro hdst
     rcases weu j ls.length with hj|hj
     ·exact hR.ne j hj hji s hdst hd
     ·unfold zaf at hd;rw[wco hj]at hd;cases hd
   ·have hoi:o.dst≠some s:=by
     have:=hno i (by simp[hs,hilt]);unfold zaf at this;rw[ho']at this;exact this
    rw[zf3 _ _ hoi,h5 s fun j hlj=>hno j (getD_set_true hlj)]
  unfold zzd at hw;unfold zp8;rw[hx];generalize (execOp (zam ls val a (zae o)).eval o).run P W=r at *;cases r with
  |ok x W' =>
   cases x<;>simp only at hw ⊢
   case value v=>exact next v W' hw.1 hw.2
   case skip=>exact next undef W' hw.1 (by cases o.dst<;>exact hw.2)
   case enter f args =>
    refine wa8 hw fun e W'' ⟨v,he,q1,q2⟩=>?_
    subst he;exact⟨v,rfl,next v W'' q1 q2⟩
  |halt x W'=>cases hw
 intro fuel
 induction fuel with
 |zero =>
  intro listed a' W hs hf hz hW;have hall:∀j,j<ls.length→listed.getD j false=true:=fun j hj=>by
   have h0:(List.range ls.length).countP (fun j=>!listed.getD j false)=0:=by omega
   rw[wbt]at h0;have:=h0 j (wdz.2 hj);simpa using this
  refine⟨?_,fin listed a' W hs hW hall⟩
  rcases hr:Region.ready .any ls.toArray listed with _|⟨k,rs⟩
  ·rfl
  ·exfalso
   have hk:k∈Region.ready .any ls.toArray listed:=by rw[hr];simp
   obtain⟨g1,ok,g2,_⟩:=mem_ready.1 hk;have hlt:k<ls.length:=by have:=(wad.1 g2).1;simpa using this
   have hka:=hall k hlt;have:k<listed.size:=by omega
   simp[this]at g1 hka;rw[g1]at hka;cases hka
 |succ fuel ih =>
  intro listed a' W hs hf hz hW;refine⟨fun h0=>fin listed a' W hs hW (zd6 listed hs h0),fun i hi=>?_⟩;refine step listed a' W i _ hs hz hW hi fun a2 W2 hz2 hW2=>ih _ a2 W2 (by simpa using hs) ?_ hz2 hW2
  obtain⟨hl,o,ho,_⟩:=mem_ready.1 hi;have hilt:i<ls.length:=by have:=(wad.1 ho).1;simpa using this
  have his:i<listed.size:=by omega
  have hcnt:=ziv (fun j=>!listed.getD j false) (fun j=>!(listed.setIfInBounds i true).getD j false) i ls.length (fun j hj=>by rw[getD_set_ne false (wff hj)]) (by simp[his]at hl ⊢;exact hl) (by simp[his]) hilt;omega
def zll(J:World→Prop)(P:Program)(w:World)(B:Nat)(ls:List Oper)(S:Nat→Sq)(a:Act):List (Bool×Bool)→List Oper→List Sq→Prop
 |_,[],_=>True
 |_,_::_,[]=>False
 |[],_::_,_::_=>False
 |b::bs,o::os,s::ss=>z9s J P w B ls S a b.1 b.2 o s∧zll J P w B ls S a bs os ss
theorem zll.at{J:World→Prop}{P:Program}{w:World}{B:Nat}{ls:List Oper}{S:Nat→Sq}{a:Act}:∀{st:List (Bool×Bool)} {os:List Oper} {ss:List Sq},zll J P w B ls S a st os ss→∀{j:Nat} {o:Oper},os[j]?=some o→z9s J P w B ls S a (st.getD j (false,false)).1 (st.getD j (false,false)).2 o (ss.getD j sqT)
 |_,[],_,_,j,o,h=>by simp at h
 |bs,x::os,[],hs,_,_,_=>by cases bs<;>exact False.elim hs
 |[],x::os,s::ss,hs,_,_,_=>False.elim hs
 |b::bs,x::os,s::ss,hs,0,o,h=>by
  simp at h;subst h;exact hs.1
 |b::bs,x::os,s::ss,hs,j+1,o,h=>by
  have:=zll.at hs.2 (j:=j) (o:=o) (by simpa using h);simpa using this
theorem zab4{J:World→Prop}(hJm:∀W W',J W→Ext W W'→J W'){P:Program}{Q:Act→World→Prop}{a:Act}{w:World}{ls:List Oper}(hJw:J w)(B:Nat)(hBw:B≤w.heap.size)(S:List Sq)(hd st keep ea:List Bool)(hB:zf7 ls a.tmps.size=true)
  (hO:zct ls (za4 ls) hd st=true) (hK:ze0 ls.length (za4 ls) hd st=keep) (hEa:zbg ls.length (za4 ls) st=ea) (hsl:st.length=ls.length) (hhd:S.map (·.hard)=hd∧usB ls S=true)
  (hstep:zll J P w B ls (fun i=>S.getD i sqT) a (st.zip ea) ls S)
  (D:List (Option Tmp)) (hDs:ls.map (·.dst)=D) (hlen:S.length=ls.length)
  (hend:∀(val:Nat→Value) (W:World),Below B w W→J W→w.heap.size≤W.heap.size→zf8 keep S 0 val W→Q (za9 D 0 val a) W) :
  wpAnyL P .any ls.toArray Q ls.toArray.size (Array.replicate ls.toArray.size false) a { w with drawn:=w.drawn+1 }:=by
 have hend:∀(val:Nat→Value) (W:World),Below B w W→J W→(∀j,j<ls.length→(∀k,k<ls.length→zdv (za4 ls) hd st k j=false)→(S.getD j sqT).p ((S.getD j sqT).us.map val) (val j) W)→Q (zam ls val a (List.range ls.length)) W:=fun val W hE hJW hS=>by
  rw[wd5,ziw ls 0 a (fun j o hj=>by rw[wfc];unfold zaf;rw[hj];rfl),hDs];refine hend val W hE hJW hE.size (ztx S 0 fun j hj hk=>?_);rw[wfc]at hk ⊢;refine hS j (by omega) fun k hkl=>?_
  rw[←hK]at hk;unfold ze0 at hk;have hjl:j<ls.length:=by omega
  simp only[wch,wcq,wcr hjl,wfn,wfk]at hk;have:=wbk.1 hk k (wdz.2 hkl);simpa using this
 refine zale hJm (A:=za4 ls) (hd:=hd) (st:=st) hBw (S:=fun i=>S.getD i sqT) hB hO (fun j hj=>?_) (fun i o hi k hk=>by
   have h1:=wbk.1 hhd.2 i (wdz.2 (wcp.1 hi).1);rw[hi]at h1;have h2:=wbk.1 h1 k hk;simpa using h2) (fun i o hi=>?hst) hend _ _ _ _ (by simp) ?_ (weq _) ⟨Below.drew (Below.refl _ _),hJm _ _ hJw (Ext.dr (Below.refl _ _)),fun j o _ hl=>?_,fun _=>Ext.dr (Below.refl _ _),fun _=>undef,fun j _ hl=>?_,rfl,rfl,fun j s _ hl=>?_,fun _ _=>rfl⟩
 ·rw[←hhd.1]at hj
  rcases weu j S.length with h|h
  ·simpa[wch,h]using hj
  ·simp[h,sqT]
 ·have h1:=hstep.at hi
  have hil:i<ls.length:=(wcp.1 hi).1;have hel:ea.length=ls.length:=by rw[←hEa];simp[zbg]
  have hz:(st.zip ea).getD i (false,false)=(st.getD i false,ea.getD i false):=by
   simp only[wch,wcn (show i<(st.zip ea).length by simp;omega),wcn (show i<st.length by omega),wcn (show i<ea.length by omega),wfk,wc1]
  rw[hz]at h1;rw[hEa];exact h1
 ·have:=wbv (p:=fun j=>!((Array.replicate ls.toArray.size false).getD j false)) (l:=List.range ls.length)
  simpa using this
 ·rw[zaw]at hl;cases hl
 ·rw[zaw]at hl;cases hl
 ·rw[zaw]at hl;cases hl
section
variable{J:World→Prop}{P:Program}{B:Nat}{strong:Bool}{o:Oper}{ρ:Operand→Value}{W:World}{val:Nat→Value}{s:Sq}
theorem zp9{v:Value}{W':World}(h:(execOp ρ o).run P W=.ok (.value v) W')(he:zje J B strong W W')(hs:s.p (s.us.map val) (match o.dst with|some _=>v|none=>undef) W'):zzd J P B strong o ρ W val s:=by
 unfold zzd;rw[h];exact⟨he,hs⟩
end
end Go.Proofs.YtdcnbeehckgpcaaGreat
