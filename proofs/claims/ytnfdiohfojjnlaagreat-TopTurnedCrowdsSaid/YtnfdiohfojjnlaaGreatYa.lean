/-
  A region that draws its order, whose strong operations have each an effect of its own; what an operation yields names those under which it stays.
-/
import Derived.Test.YtnfdiohfojjnlaaGreatBc
import Derived.Test.YtnfdiohfojjnlaaGreatBa
set_option maxRecDepth 200000
set_option maxHeartbeats 0
namespace Go.Proofs.YtnfdiohfojjnlaaGreat
open Go.RowKit Go.Shelf
structure SqM (H:Nat→World→World→Prop) where
 us:List Nat
 p:List Value→Value→World→Prop
 hard:List Nat
 m:∀ l v w w',p l v w→Ext w w'→p l v w'
 hm:∀ k∈hard,∀ l v w w',p l v w→H k w w'→p l v w'
section
variable {H:Nat→World→World→Prop}
def zib (ks:List Nat) (v0:Value):SqM H:=⟨[],fun _ v _=>v=v0,ks,fun _ _ _ _ h _=>h,fun _ _ _ _ _ _ h _=>h⟩
def zod:SqM H:=⟨[],fun _ _ _=>True,[],fun _ _ _ _ h _=>h,fun _ h=>by cases h⟩
def z47 (us ks:List Nat) (p:List Value→Value→World→Prop) (m:∀ l v w w',p l v w→Ext w w'→p l v w') (hm:∀ k∈ks,∀ l v w w',p l v w→H k w w'→p l v w'):SqM H:=⟨us,p,ks,m,hm⟩
def zoe (A:List (List Nat)) (hd:List (List Nat)) (st:List Bool) (k j:Nat):Bool:=st.getD k false && !(hd.getD j []).contains k && !(k == j) && !(A.getD j []).contains k
def z48 (n:Nat) (A:List (List Nat)) (hd:List (List Nat)) (st:List Bool):List Bool:=(List.range n).map fun j=>(List.range n).all fun k=>!zoe A hd st k j
def zq0 (ls:List Oper) (A:List (List Nat)) (hd:List (List Nat)) (st:List Bool) (U:List (List Nat)):Bool :=
 z8w ls A && (List.range ls.length).all fun i=>match ls[i]? with
  | none=>true
  | some o=>(zk4 ls o ++ U.getD i []).all fun j=>(List.range ls.length).all fun k=>!zoe A hd st k j || k == i || (A.getD k []).contains i
def zadv (n:Nat) (A:List (List Nat)) (hd:List (List Nat)) (st:List Bool) (listed:Array Bool) (j:Nat):Prop:=∀ k,k < n→listed.getD k false=true→zoe A hd st k j=false
def usBM (ls:List Oper) (S:List (SqM H)):Bool:=(List.range ls.length).all fun i=>match ls[i]? with
 | none=>true
 | some o=>(S.getD i zod).us.all fun k=>(zap o).contains k
def z49 (kJ:List Nat) (st:List Bool):List Bool:=(List.range st.length).map fun k=>st.getD k false && !kJ.contains k
def zza (J:World→Prop) (kJ:List Nat) (w:World) (B:Nat) (ls:List Oper) (S:Nat→SqM H) (A:List (List Nat)) (hd:List (List Nat)) (st:List Bool) (a:Act) (listed:Array Bool) (a':Act) (W:World):Prop :=
 Below B w W∧z4o ls listed∧((∀ k,k < ls.length→listed.getD k false=true→st.getD k false=false)→Ext w W)∧((∀ k,k < ls.length→listed.getD k false=true→st.getD k false=true→k∈kJ)→J W)∧∃ val:Nat→Value,(∀ j,j < ls.length→listed.getD j false=true→zadv ls.length A hd st listed j→(S j).p ((S j).us.map val) (val j) W)∧a'.defers=a.defers∧a'.tmps.size=a.tmps.size ∧
  (∀ j s,zas ls j=some s→listed.getD j false=true→a'.tmps[s]? = some (val j))∧(∀ s,(∀ j,listed.getD j false=true→zas ls j≠some s)→a'.tmps[s]? = a.tmps[s]?)
def zg7 (H:Nat→World→World→Prop) (i:Nat) (strong:Bool) (W W':World):Prop:=if strong then H i W W' else Ext W W'
structure zt3 (H:Nat→World→World→Prop) (B:Nat):Prop where
 b:∀ i w w',B≤w.heap.size→H i w w'→Below B w w'
 s:∀ i w w',H i w w'→w.heap.size≤w'.heap.size
def zof (P:Program) (i:Nat) (strong:Bool) (o:Oper) (ρ:Operand→Value) (W:World) (val:Nat→Value) (s:SqM H):Prop :=
 match (execOp ρ o).run P W with
 | .ok (.value v) W'=>zg7 H i strong W W'∧s.p (s.us.map val) (match o.dst with | some _=>v | none=>undef) W'
 | .ok .skip W'=>zg7 H i strong W W'∧s.p (s.us.map val) undef W'
 | .ok (.enter f args) W'=>Calls P f args W' fun e W''=>∃ v,e = .returned v∧zg7 H i strong W W''∧s.p (s.us.map val) (match o.dst with | some _=>v | none=>undef) W''
 | _=>False
def z0l (J:World→Prop) (P:Program) (w:World) (B:Nat) (ls:List Oper) (S:Nat→SqM H) (a:Act) (i:Nat) (strong early jb:Bool) (o:Oper) (s:SqM H):Prop :=
 ∀ (val:Nat→Value) (ρ:Operand→Value) (W:World),Below B w W→w.heap.size≤W.heap.size→(∀ j∈zk4 ls o ++ s.us,(S j).p ((S j).us.map val) (val j) W)→Holds ls a o val ρ→(early=true→Ext w W)→(jb=true→J W)→zof P i strong o ρ W val s
theorem zg7.below {i B:Nat} {s:Bool} {W W':World} (hH:zt3 H B) (h:zg7 H i s W W') (hB:B≤W.heap.size):Below B W W':=by
 unfold zg7 at h;cases s
 ·exact h.mono hB
 ·exact hH.b i W W' hB h
structure zzb (H:Nat→World→World→Prop) (J:World→Prop) (kJ:List Nat):Prop where
 m:∀ w w',J w→Ext w w'→J w'
 k:∀ k∈kJ,∀ w w',J w→H k w w'→J w'
theorem zae8 {J:World→Prop} {kJ:List Nat} (hJ:zzb H J kJ) {P:Program} {w:World} {B:Nat} {U:List (List Nat)} (hH0:zt3 H B) (hBw:B≤w.heap.size) {ls:List Oper} {S:Nat→SqM H} {A:List (List Nat)} {hd:List (List Nat)} {st:List Bool} {a:Act} {Q:Act→World→Prop} (hB:zg2 ls a.tmps.size=true) (hO:zq0 ls A hd st U=true) (hU:∀ i,(S i).us=U.getD i [])
  (hhd:∀ j k,k∈hd.getD j []→k∈(S j).hard) (hus:∀ i o,ls[i]? = some o→∀ k∈(S i).us,k∈zap o) (hsl0:st.length=ls.length)
  (hstep:∀ i o,ls[i]? = some o→z0l J P w B ls S a i (st.getD i false) ((zby ls.length A st).getD i false) ((zby ls.length A (z49 kJ st)).getD i false) o (S i))
  (hend:∀ (val:Nat→Value) (W:World),Below B w W→(∀ j,j < ls.length→(∀ k,k < ls.length→zoe A hd st k j=false)→(S j).p ((S j).us.map val) (val j) W)→Q (zaz ls val a (List.range ls.length)) W) :
  ∀ (fuel:Nat) (listed:Array Bool) (a':Act) (W:World),listed.size=ls.length→(List.range ls.length).countP (fun j=>!listed.getD j false)≤fuel→w.heap.size≤W.heap.size→zza J kJ w B ls S A hd st a listed a' W →
   wpAnyL P .any ls.toArray Q fuel listed a' W:=by
 simp only [zq0,Bool.and_eq_true] at hO;obtain ⟨hA,hO⟩:=hO;have fin:∀ (listed:Array Bool) (a':Act) (W:World),listed.size=ls.length→zza J kJ w B ls S A hd st a listed a' W→(∀ j,j < ls.length→listed.getD j false=true)→Q a' W:=by
  intro listed a' W hs ⟨hE,hc,_,_,val,h1,h2,h3,h4,h5⟩ hall;have e:a'=zaz ls val a (List.range ls.length):=by
   refine z25 (by rw [h2,zje]) (by rw [h3,znz]) fun s=>?_
   by_cases hx:∃ j,j < ls.length∧zas ls j=some s
   ·obtain ⟨j,hj,hd⟩:=hx
    have hj':ls[j]? = some ls[j]:=List.getElem?_eq_getElem hj;have hR:=zdr hB hj';have hdst:ls[j].dst=some s:=by unfold zas at hd;rw [hj'] at hd;exact hd
    rw [h4 j s hd (hall j hj),zf5 val hd _ _ (fun k hk hd2=>?_) (hR.d s hdst) (.inl (List.mem_range.2 hj))]
    by_cases hkj:k=j
    ·exact hkj
    ·exact absurd hd2 (hR.ne k (List.mem_range.1 hk) hkj s hdst)
   ·rw [h5 s fun j hl hd=>hx ⟨j,?_,hd⟩,zey ls val _ _ fun j hj hd=>hx ⟨j,List.mem_range.1 hj,hd⟩]
    unfold zas at hd
    rcases Nat.lt_or_ge j ls.length with hj | hj
    ·exact hj
    ·rw [List.getElem?_eq_none hj] at hd;cases hd
  rw [e];exact hend val W hE fun j hj hk=>h1 j hj (hall j hj) fun k hkl _=>hk k hkl
 have zeb:∀ (listed:Array Bool),listed.size=ls.length→Region.ready .any ls.toArray listed=[]→∀ j,j < ls.length→listed.getD j false=true:=by
  intro listed hs h0 j
  induction j using Nat.strongRecOn with
  | _ j ih =>
   intro hj;cases hl:listed.getD j false with
   | true=>rfl
   | false =>
    exfalso;have hj':ls[j]? = some ls[j]:=List.getElem?_eq_getElem hj;have hR:=zdr hB hj';have hin:j∈Region.ready .any ls.toArray listed:=by
     refine mem_ready.2 ⟨?_,ls[j],by simp [hj],fun e he hb=>?_⟩
     ·have hjs:j < listed.size:=by omega
      simp [hjs] at hl ⊢;exact hl
     ·have hd:e.on∈zap ls[j]:=List.mem_map.2 ⟨e,List.mem_filter.2 ⟨by simpa using he,hb⟩,rfl⟩
      have hlt:=hR.dep _ hd;exact ih _ hlt (by omega)
    rw [h0] at hin;cases hin
 have step:∀ (listed:Array Bool) (a':Act) (W:World) (i:Nat) (K:Act→World→Prop),listed.size=ls.length→w.heap.size≤W.heap.size→zza J kJ w B ls S A hd st a listed a' W→i∈Region.ready .any ls.toArray listed →
   (∀ a2 W2,w.heap.size≤W2.heap.size→zza J kJ w B ls S A hd st a (listed.setIfInBounds i true) a2 W2→K a2 W2)→zn4 P ls.toArray i K a' W:=by
  intro listed a' W i K hs hsz0 ⟨hE,hc,hx0,hj0,val,h1,h2,h3,h4,h5⟩ hi hK;obtain ⟨hl,o,ho,hdeps⟩:=mem_ready.1 hi;have ho':ls[i]? = some o:=by simpa using ho
  have hilt:i < ls.length:=(List.getElem?_eq_some_iff.1 ho').1;have hR:=zdr hB ho';have hdl:∀ j∈zap o,listed.getD j false=true:=fun j hj=>by
   obtain ⟨e,he,rfl⟩:=List.mem_map.1 hj;obtain ⟨he1,he2⟩:=List.mem_filter.1 he;exact hdeps e (by simpa using he1) he2
  have hilf:listed.getD i false=false:=by
   have:i < listed.size:=by omega
   simp [this] at hl ⊢;exact hl
  have hnl:∀ {b:Prop},listed.getD i false=true→b:=fun h=>by rw [hilf] at h;cases h
  have hanc:=zth hB hA hc;have hev:∀ x∈o.op.operands,a'.eval x=(zaz ls val a (zap o)).eval x:=fun x hx=>by
   cases x with
   | tmp s =>
    have hh:a'.tmps[s]? = (zaz ls val a (zap o)).tmps[s]?:=by
     rcases hR.x s hx with ⟨j,hj,hd⟩ | hno
     ·have hji:=hR.dep j hj
      have hj':ls[j]? = some (ls[j]'(by omega)):=List.getElem?_eq_getElem (by omega);have hRj:=zdr hB hj';have hdst:(ls[j]'(by omega)).dst=some s:=by unfold zas at hd;rw [hj'] at hd;exact hd
      rw [h4 j s hd (hdl j hj),zf5 val hd _ _ (fun k hk hd2=>?_) (hRj.d s hdst) (.inl hj)]
      by_cases hkj:k=j
      ·exact hkj
      ·exact absurd hd2 (hRj.ne k (by have:=hR.dep k hk;omega) hkj s hdst)
     ·rw [h5 s fun j hl hd=>?_,zey ls val _ _ fun j hj=>hno j (by have:=hR.dep j hj;omega)]
      rcases Nat.lt_or_ge j ls.length with hj | hj
      ·exact hno j hj hd
      ·unfold zas at hd;rw [List.getElem?_eq_none hj] at hd;cases hd
    simp only [Act.eval,Array.getD_eq_getD_getElem?,hh]
   | _=>rfl
  have hx:=execOp_congr o hR.s hev;have hH:Holds ls a o val (zaz ls val a (zap o)).eval:=by
   refine ⟨fun j hj t ht=>?_,fun t ht=>?_,fun _=>rfl,fun _=>rfl⟩
   ·have hji:=hR.dep j hj
    have hj':ls[j]? = some (ls[j]'(by omega)):=List.getElem?_eq_getElem (by omega);have hRj:=zdr hB hj';have hdst:(ls[j]'(by omega)).dst=some t:=by unfold zas at ht;rw [hj'] at ht;exact ht
    have:=zf5 val ht (zap o) a (fun k hk hd2=>by
     by_cases hkj:k=j
     ·exact hkj
     ·exact absurd hd2 (hRj.ne k (by have:=hR.dep k hk;omega) hkj t hdst)) (hRj.d t hdst) (.inl hj)
    simp [Act.eval,Array.getD_eq_getD_getElem?,this]
   ·have:=zey ls val (zap o) a (fun j hj=>ht j hj)
    simp only [Act.eval,Array.getD_eq_getD_getElem?,this]
  have hdepS:∀ j∈zk4 ls o ++ (S i).us,(S j).p ((S j).us.map val) (val j) W:=fun j hju=>by
   have hj:j∈zap o:=by
    rcases List.mem_append.1 hju with h | h
    ·exact (List.mem_filter.1 h).1
    ·exact hus i o ho' j h
   refine h1 j (by have:=hR.dep j hj;omega) (hdl j hj) fun k hk hlk=>?_
   cases hkl:zoe A hd st k j with
   | false=>rfl
   | true =>
    have q:=List.all_eq_true.1 hO i (List.mem_range.2 hilt);rw [ho',← hU i] at q;have q2:=List.all_eq_true.1 (List.all_eq_true.1 q j hju) k (List.mem_range.2 hk);rw [hkl] at q2;simp only [Bool.not_true,Bool.false_or,Bool.or_eq_true] at q2
    rcases q2 with q2 | q2
    ·have:k=i:=by simpa using q2
     subst this;exact hnl hlk
    ·exact hnl (hanc k hk hlk i (by simpa using q2))
  have hw:=hstep i o ho' val _ W hE hsz0 hdepS hH (fun he=>hx0 fun k hk hlk=>by
   simp only [zby,List.getD_eq_getElem?_getD,List.getElem?_map,List.getElem?_range hilt,Option.map_some,Option.getD_some] at he;have q:=List.all_eq_true.1 he k (List.mem_range.2 hk);simp only [Bool.or_eq_true,Bool.not_eq_true'] at q
   rcases q with (q | q) | q
   ·simpa [List.getD_eq_getElem?_getD] using q
   ·have:k=i:=by simpa using q
    subst this;exact hnl hlk
   ·exact hnl (hanc k hk hlk i (by simpa [List.getD_eq_getElem?_getD] using q))) fun he=>hj0 fun k hk hlk hsk=>by
   simp only [zby,List.getD_eq_getElem?_getD,List.getElem?_map,List.getElem?_range hilt,Option.map_some,Option.getD_some] at he;have q:=List.all_eq_true.1 he k (List.mem_range.2 hk);simp only [Bool.or_eq_true,Bool.not_eq_true'] at q
   rcases q with (q | q) | q
   ·have hks:k < st.length:=by omega
    unfold z49 at q;rw [List.getElem?_map,List.getElem?_range hks] at q;simp only [Option.map_some,Option.getD_some,hsk,Bool.true_and,Bool.not_eq_false'] at q;simpa using q
   ·have:k=i:=by simpa using q
    subst this;exact hnl hlk
   ·exact hnl (hanc k hk hlk i (by simpa [List.getD_eq_getElem?_getD] using q))
  have hwant:∀ y,Region.wanted o y=true:=fun y=>by simp [Region.wanted,hR.g]
  unfold zn4;rw [ho];simp only;rw [if_pos (hwant _)];have hupd:∀ (j:Nat) (oj:Oper),ls[j]? = some oj→(listed.getD j false=true∨j=i)→(S j).us.map (fun k=>if k=i then (match o.dst with | some _=>undef | none=>undef) else val k)=(S j).us.map val∧∀ u:Value,(S j).us.map (fun k=>if k=i then u else val k)=(S j).us.map val:=fun j oj hj hlj=>by
   have key:∀ u:Value,(S j).us.map (fun k=>if k=i then u else val k)=(S j).us.map val:=fun u=>List.map_congr_left fun k hk=>by
    have hkd:=hus j oj hj k hk;have hkl:listed.getD k false=true:=by
     rcases hlj with h | rfl
     ·exact hc j oj hj h k hkd
     ·rw [ho'] at hj;cases hj;exact hdl k hkd
    have:k≠i:=fun e=>by subst e;exact hnl hkl
    rw [if_neg this]
   exact ⟨key _,key⟩
  have next:∀ v W',zg7 H i (st.getD i false) W W'→(S i).p ((S i).us.map val) (match o.dst with | some _=>v | none=>undef) W'→K (a'.put o.dst v) W':=fun v W' hE' hS=>by
   have hsz1:W.heap.size≤W'.heap.size:=by
    unfold zg7 at hE'
    split at hE'
    ·exact hH0.s i _ _ hE'
    ·exact hE'.size
   refine hK _ _ (by omega) ⟨hE.trans (zg7.below hH0 hE' (by omega)),fun j oj hj hlj d hd=>?_,fun hns=>?_,fun hns=>?_,fun j=>if j=i then (match o.dst with | some _=>v | none=>undef) else val j,fun j hj hlj hal=>?_,by rw [put_defers,h2],by rw [zny,h3],fun j s hd hlj=>?_,fun s hno=>?_⟩
   ·by_cases hji:j=i
    ·subst hji
     rw [ho'] at hj;cases hj;exact getD_set_true (hdl d hd)
    ·rw [getD_set_ne false (Ne.symm hji)] at hlj
     exact getD_set_true (hc j oj hj hlj d hd)
   ·have hst:=hns i hilt (by simp [hs,hilt])
    rw [hst] at hE';exact (hx0 fun k hk hlk=>hns k hk (getD_set_true hlk)).trans' hE'
   ·have hJW:=hj0 fun k hk hlk hsk=>hns k hk (getD_set_true hlk) hsk
    unfold zg7 at hE'
    split at hE'
    ·rename_i hst
     exact hJ.k i (hns i hilt (by simp [hs,hilt]) hst) _ _ hJW hE'
    ·exact hJ.m _ _ hJW hE'
   ·by_cases hji:j=i
    ·subst hji;rw [(hupd j o ho' (.inr rfl)).2];simp only [if_true];exact hS
    ·rw [getD_set_ne false (Ne.symm hji)] at hlj
     rw [(hupd j _ (List.getElem?_eq_getElem hj) (.inl hlj)).2];simp only [hji,if_false];have hold:=h1 j hj hlj fun k hk hlk=>hal k hk (getD_set_true hlk)
     have hki:=hal i hilt (by simp [hs,hilt]);cases hst:st.getD i false with
     | false =>
      rw [hst] at hE';exact (S j).m _ _ _ _ hold hE'
     | true =>
      unfold zoe at hki;rw [hst] at hki;have hij:(i == j)=false:=by simpa using fun h=>hji h.symm
      rw [hij] at hki;simp only [Bool.true_and,Bool.not_false,Bool.and_true,Bool.and_eq_false_iff,Bool.not_eq_false'] at hki
      rcases hki with hki | hki
      ·exact (S j).hm i (hhd j i (by simpa using hki)) _ _ _ _ hold (by rw [hst] at hE';exact hE')
      ·exact hnl (hanc j hj hlj i (by simpa using hki))
   ·by_cases hji:j=i
    ·subst hji
     have hdst:o.dst=some s:=by unfold zas at hd;rw [ho'] at hd;exact hd
     simp only [if_true,hdst];exact zzn _ _ (by rw [h3];exact hR.d s hdst)
    ·rw [getD_set_ne false (Ne.symm hji)] at hlj
     simp only [hji,if_false];rw [ziy,h4 j s hd hlj];intro hdst
     rcases Nat.lt_or_ge j ls.length with hj | hj
     ·exact hR.ne j hj hji s hdst hd
     ·unfold zas at hd;rw [List.getElem?_eq_none hj] at hd;cases hd
   ·have hoi:o.dst≠some s:=by
     have:=hno i (by simp [hs,hilt]);unfold zas at this;rw [ho'] at this;exact this
    rw [ziy _ _ hoi,h5 s fun j hlj=>hno j (getD_set_true hlj)]
  unfold zof at hw;unfold zsm;rw [hx];generalize (execOp (zaz ls val a (zap o)).eval o).run P W=r at *;cases r with
  | ok x W' =>
   cases x<;>simp only at hw ⊢
   case value v=>exact next v W' hw.1 hw.2
   case skip=>exact next undef W' hw.1 (by cases o.dst<;>exact hw.2)
   case enter f args =>
    refine Calls.mono hw fun e W'' ⟨v,he,q1,q2⟩=>?_
    subst he;exact ⟨v,rfl,next v W'' q1 q2⟩
  | halt x W'=>cases hw
 intro fuel
 induction fuel with
 | zero =>
  intro listed a' W hs hf hz hW;have hall:∀ j,j < ls.length→listed.getD j false=true:=fun j hj=>by
   have h0:(List.range ls.length).countP (fun j=>!listed.getD j false)=0:=by omega
   rw [List.countP_eq_zero] at h0;have:=h0 j (List.mem_range.2 hj);simpa using this
  refine ⟨?_,fin listed a' W hs hW hall⟩
  rcases hr:Region.ready .any ls.toArray listed with _ | ⟨k,rs⟩
  ·rfl
  ·exfalso
   have hk:k∈Region.ready .any ls.toArray listed:=by rw [hr];simp
   obtain ⟨g1,ok,g2,_⟩:=mem_ready.1 hk;have hlt:k < ls.length:=by have:=(Array.getElem?_eq_some_iff.1 g2).1;simpa using this
   have hka:=hall k hlt;have:k < listed.size:=by omega
   simp [this] at g1 hka;rw [g1] at hka;cases hka
 | succ fuel ih =>
  intro listed a' W hs hf hz hW;refine ⟨fun h0=>fin listed a' W hs hW (zeb listed hs h0),fun i hi=>?_⟩;refine step listed a' W i _ hs hz hW hi fun a2 W2 hz2 hW2=>ih _ a2 W2 (by simpa using hs) ?_ hz2 hW2
  obtain ⟨hl,o,ho,_⟩:=mem_ready.1 hi;have hilt:i < ls.length:=by have:=(Array.getElem?_eq_some_iff.1 ho).1;simpa using this
  have his:i < listed.size:=by omega
  have hcnt:=zn0 (fun j=>!listed.getD j false) (fun j=>!(listed.setIfInBounds i true).getD j false) i ls.length (fun j hj=>by rw [getD_set_ne false (Ne.symm hj)]) (by simp [his] at hl ⊢;exact hl) (by simp [his]) hilt;omega
def zi3 (J:World→Prop) (P:Program) (w:World) (B:Nat) (ls:List Oper) (S:Nat→SqM H) (a:Act):Nat→List (Bool × Bool × Bool)→List Oper→List (SqM H)→Prop
 | _,_,[],_=>True
 | _,_,_ :: _,[]=>False
 | _,[],_ :: _,_ :: _=>False
 | i,b :: bs,o :: os,s :: ss=>z0l J P w B ls S a i b.1 b.2.1 b.2.2 o s∧zi3 J P w B ls S a (i+1) bs os ss
theorem zi3.at {J:World→Prop} {P:Program} {w:World} {B:Nat} {ls:List Oper} {S:Nat→SqM H} {a:Act}:∀ {i:Nat} {st:List (Bool × Bool × Bool)} {os:List Oper} {ss:List (SqM H)},zi3 J P w B ls S a i st os ss→∀ {j:Nat} {o:Oper},os[j]? = some o→z0l J P w B ls S a (i+j) (st.getD j (false,false,false)).1 (st.getD j (false,false,false)).2.1 (st.getD j (false,false,false)).2.2 o (ss.getD j zod)
 | _,_,[],_,_,j,o,h=>by simp at h
 | _,bs,x :: os,[],hs,_,_,_=>by cases bs<;>exact False.elim hs
 | _,[],x :: os,s :: ss,hs,_,_,_=>False.elim hs
 | i,b :: bs,x :: os,s :: ss,hs,0,o,h=>by
  simp at h;subst h;exact hs.1
 | i,b :: bs,x :: os,s :: ss,hs,j+1,o,h=>by
  have:=zi3.at hs.2 (j:=j) (o:=o) (by simpa using h);rw [show i+(j+1)=i+1+j by omega];simpa using this
def zzc (keep:List Bool):List (SqM H)→Nat→(Nat→Value)→World→Prop
 | [],_,_,_=>True
 | s :: ss,i,val,W=>(if keep.getD i false then s.p (s.us.map val) (val i) W else True)∧zzc keep ss (i+1) val W
theorem z0m {W:World} {val:Nat→Value} {keep:List Bool}:∀ (ss:List (SqM H)) (i:Nat),(∀ j,j < ss.length→keep.getD (i+j) false=true→(ss.getD j zod).p ((ss.getD j zod).us.map val) (val (i+j)) W)→zzc keep ss i val W
 | [],_,_=>trivial
 | s :: ss,i,h=>⟨by
   split
   ·rename_i hk
    have:=h 0 (by simp) (by simpa using hk);simpa using this
   ·trivial,z0m ss (i+1) fun j hj hk=>by
   have:=h (j+1) (by simp;omega) (by rw [← Nat.add_assoc,Nat.add_right_comm];exact hk);rw [Nat.add_assoc,Nat.add_comm 1 j];simpa using this⟩
theorem z7g {J:World→Prop} {kJ:List Nat} (hJ:zzb H J kJ) {P:Program} {Q:Act→World→Prop} {a:Act} {w:World} {ls:List Oper} (B:Nat) (hH0:zt3 H B) (hBw:B≤w.heap.size) (hJw:J w) (S:List (SqM H)) (hd:List (List Nat)) (st keep ea eb:List Bool) (hB:zg2 ls a.tmps.size=true)
  (U:List (List Nat)) (hUL:S.map (·.us)=U) (hO:zq0 ls (zbt ls) hd st U=true) (hK:z48 ls.length (zbt ls) hd st=keep) (hEa:zby ls.length (zbt ls) st=ea) (hEb:zby ls.length (zbt ls) (z49 kJ st)=eb) (hsl:st.length=ls.length) (hhd:S.map (·.hard)=hd∧usBM ls S=true)
  (hstep:zi3 J P w B ls (fun i=>S.getD i zod) a 0 (st.zip (ea.zip eb)) ls S)
  (D:List (Option Tmp)) (hDs:ls.map (·.dst)=D) (hlen:S.length=ls.length)
  (hend:∀ (val:Nat→Value) (W:World),Below B w W→w.heap.size≤W.heap.size→zzc keep S 0 val W→Q (zbx D 0 val a) W) :
  wpAnyL P .any ls.toArray Q ls.toArray.size (Array.replicate ls.toArray.size false) a { w with drawn:=w.drawn+1 }:=by
 have hend:∀ (val:Nat→Value) (W:World),Below B w W→(∀ j,j < ls.length→(∀ k,k < ls.length→zoe (zbt ls) hd st k j=false)→(S.getD j zod).p ((S.getD j zod).us.map val) (val j) W)→Q (zaz ls val a (List.range ls.length)) W:=fun val W hE hS=>by
  rw [List.range_eq_range',zn2 ls 0 a (fun j o hj=>by rw [Nat.zero_add];unfold zas;rw [hj];rfl),hDs];refine hend val W hE hE.size (z0m S 0 fun j hj hk=>?_);rw [Nat.zero_add] at hk ⊢;refine hS j (by omega) fun k hkl=>?_
  rw [← hK] at hk;unfold z48 at hk;have hjl:j < ls.length:=by omega
  simp only [List.getD_eq_getElem?_getD,List.getElem?_map,List.getElem?_range hjl,Option.map_some,Option.getD_some] at hk;have:=List.all_eq_true.1 hk k (List.mem_range.2 hkl);simpa using this
 refine zae8 (J:=J) (kJ:=kJ) hJ (A:=zbt ls) (hd:=hd) (st:=st) hH0 hBw (S:=fun i=>S.getD i zod) hB hO (fun i=>by
   rw [← hUL];simp only [List.getD_eq_getElem?_getD,List.getElem?_map];cases S[i]?<;>rfl) (fun j k hj=>?_) (fun i o hi k hk=>by
   have h1:=List.all_eq_true.1 hhd.2 i (List.mem_range.2 (List.getElem?_eq_some_iff.1 hi).1);rw [hi] at h1;have h2:=List.all_eq_true.1 h1 k hk;simpa using h2) hsl (fun i o hi=>?hst) hend _ _ _ _ (by simp) ?_ (Nat.le_refl _) ⟨Below.drew (Below.refl _ _),fun j o _ hl=>?_,fun _=>Ext.dr (Below.refl _ _),fun _=>hJ.m _ _ hJw (Ext.dr (Below.refl _ _)),fun _=>undef,fun j _ hl=>?_,rfl,rfl,fun j s _ hl=>?_,fun _ _=>rfl⟩
 ·rw [← hhd.1] at hj
  rcases Nat.lt_or_ge j S.length with h | h
  ·simpa [List.getD_eq_getElem?_getD,h] using hj
  ·simp [List.getD_eq_getElem?_getD,h] at hj
 ·have h1:=hstep.at hi
  have hil:i < ls.length:=(List.getElem?_eq_some_iff.1 hi).1;have hel:ea.length=ls.length:=by rw [← hEa];simp [zby]
  have hbl:eb.length=ls.length:=by rw [← hEb];simp [zby]
  have hz:(st.zip (ea.zip eb)).getD i (false,false,false)=(st.getD i false,ea.getD i false,eb.getD i false):=by
   simp only [List.getD_eq_getElem?_getD,List.getElem?_eq_getElem (show i < (st.zip (ea.zip eb)).length by simp;omega),List.getElem?_eq_getElem (show i < eb.length by omega),List.getElem?_eq_getElem (show i < st.length by omega),List.getElem?_eq_getElem (show i < ea.length by omega),Option.getD_some,List.getElem_zip]
  rw [hz,Nat.zero_add] at h1;rw [hEa,hEb];exact h1
 ·have:=List.countP_le_length (p:=fun j=>!((Array.replicate ls.toArray.size false).getD j false)) (l:=List.range ls.length)
  simpa using this
 ·rw [zbc] at hl;cases hl
 ·rw [zbc] at hl;cases hl
 ·rw [zbc] at hl;cases hl
theorem zlb {J:World→Prop} {kJ:List Nat} (hJ:zzb H J kJ) {P:Program} {id:Nat} {Q:Exit→Act→World→Prop} {a:Act} {w:World} {ls tl:List Oper} (k:Nat) (htl:ls.drop k=tl) (hT:zt2 .any (ls.take k) tl=true)
  (B:Nat) (hH0:zt3 H B) (hBw:B≤w.heap.size) (hJw:J w) (S:List (SqM H)) (hd:List (List Nat)) (st keep ea eb:List Bool) (hm:P.follows .mixedOrders=true) (hB:zg2 (ls.take k) a.tmps.size=true)
  (U:List (List Nat)) (hUL:S.map (·.us)=U) (hO:zq0 (ls.take k) (zbt (ls.take k)) hd st U=true) (hK:z48 (ls.take k).length (zbt (ls.take k)) hd st=keep) (hEa:zby (ls.take k).length (zbt (ls.take k)) st=ea) (hEb:zby (ls.take k).length (zbt (ls.take k)) (z49 kJ st)=eb) (hsl:st.length=(ls.take k).length) (hhd:S.map (·.hard)=hd∧usBM (ls.take k) S=true)
  (hstep:zi3 J P w B (ls.take k) (fun i=>S.getD i zod) a 0 (st.zip (ea.zip eb)) (ls.take k) S)
  (D:List (Option Tmp)) (hDs:(ls.take k).map (·.dst)=D) (hlen:S.length=(ls.take k).length)
  (hend:∀ (val:Nat→Value) (W:World),Below B w W→w.heap.size≤W.heap.size→zzc keep S 0 val W→wpList P ls.toArray Q tl (zbx D 0 val a) W) :
  (Code.region id ls.toArray true).wp P Q a w:=by
 subst htl;refine wp_region_any hm ?_
 have h:=zr1 (P:=P) (ops:=ls.toArray) (Q:=Q) (a:=a) (w:={ w with drawn:=w.drawn+1 }) (ls.drop k) (ls.take k) hT;rw [List.take_append_drop] at h;refine h ?_
 have h5:=zfh (Q:=Exit.then (fun a w=>wpList P ls.toArray Q (ls.drop k) a w) Q) _ _ _ _ (z7g hJ (Q:=fun a w=>wpList P ls.toArray Q (ls.drop k) a w) B hH0 hBw hJw S hd st keep ea eb hB U hUL hO hK hEa hEb hsl hhd hstep D hDs hlen hend);simpa using h5
end
section
variable {H:Nat→World→World→Prop} {P:Program} {i:Nat} {strong:Bool} {o:Oper} {ρ:Operand→Value} {W:World} {val:Nat→Value} {s:SqM H}
theorem zb0 {v:Value} {W':World} (h:(execOp ρ o).run P W = .ok (.value v) W') (he:zg7 H i strong W W') (hs:s.p (s.us.map val) (match o.dst with | some _=>v | none=>undef) W'):zof P i strong o ρ W val s:=by
 unfold zof;rw [h];exact ⟨he,hs⟩
theorem zr2 (x y:Operand) {t ty:TypeId} (h:o.op = .call { callee:=.builtin .append,args:=#[x,y],argTypes:=#[t,t] }) (hty:o.type=ty) (xv yv:Value) (hx:ρ x=xv) (hy:ρ y=yv) {v:Value} {W':World} (hr:(Builtin.append_ #[t,t] ty #[xv,yv]).run P W = .ok v W')
  (he:zg7 H i strong W W') (hs:s.p (s.us.map val) (match o.dst with | some _=>v | none=>undef) W'):zof P i strong o ρ W val s:=by
 refine zb0 (v:=v) (W':=W') ?_ he hs;unfold execOp;simp only [h,resolve,invoke,builtin,Sem.run_bind,Sem.run_pure,Result.andThen_ok,List.map_toArray,List.map_cons,List.map_nil,hx,hy,hty,hr]
end
end Go.Proofs.YtnfdiohfojjnlaaGreat
