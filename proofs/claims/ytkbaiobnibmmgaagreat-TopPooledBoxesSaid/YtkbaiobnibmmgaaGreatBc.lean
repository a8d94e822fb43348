/-
  A region that draws its order, some of whose operations are carried out only if another one has yielded true (or false): which ones, is known beforehand.
-/
import Derived.Test.YtkbaiobnibmmgaaGreatBa
namespace Go.Proofs.YtkbaiobnibmmgaaGreat
open Go.RowKit Go.Shelf
def GvOk:List (Option Bool)→List Sq→Prop
 | some b :: gs,s :: ss=>(∀ l v W,s.p l v W→v = .bool b)∧GvOk gs ss
 | none :: gs,_ :: ss=>GvOk gs ss
 | [],_=>True
 | _ :: _,[]=>False
theorem GvOk.at:∀ {gs:List (Option Bool)} {ss:List Sq},GvOk gs ss→∀ j b,gs.getD j none=some b→∀ l v W,(ss.getD j sqT).p l v W→v = .bool b
 | some c :: gs,s :: ss,h,0,b,hj=>by simp at hj;subst hj;simpa using h.1
 | some c :: gs,s :: ss,h,j+1,b,hj=>by simpa using GvOk.at h.2 j b (by simpa using hj)
 | none :: gs,s :: ss,h,0,b,hj=>by simp at hj
 | none :: gs,s :: ss,h,j+1,b,hj=>by simpa using GvOk.at (gs:=gs) (ss:=ss) h j b (by simpa using hj)
 | [],_,_,j,b,hj=>by simp at hj
 | none :: _,[],h,_,_,_=>False.elim h
 | some _ :: _,[],h,_,_,_=>False.elim h
end Go.Proofs.YtkbaiobnibmmgaaGreat
namespace Go.Proofs.YtkbaiobnibmmgaaGreat
open Go.RowKit Go.Shelf
def zr6 (md:Region.Mode):List Oper→List Oper→Bool
 | _,[]=>true
 | head,o :: tl=>lastB md head.toArray o && o.guard.isNone && zr6 md (head ++ [o]) tl
section
variable {P:Program} {md:Region.Mode}
theorem zhv {ops:Array Oper} {Q Q':Exit→Act→World→Prop} (h:∀ e a w,Q e a w→Q' e a w):∀ (fuel:Nat) (listed:Array Bool) (a:Act) (w:World),wpAny P md ops Q fuel listed a w→wpAny P md ops Q' fuel listed a w
 | 0,_,_,_,hh=>⟨hh.1,h _ _ _ hh.2⟩
 | fuel+1,listed,a,w,hh=>⟨fun h0=>h _ _ _ (hh.1 h0),fun i hi=>by
   have h2:=hh.2 i hi
   unfold wpOp at h2 ⊢
   split at h2
   ·rename_i ho;try simp only [ho]
    exact zhv h fuel _ _ _ h2
   ·rename_i o ho
    try simp only [ho]
    split at h2
    ·rename_i hw
     rw [if_pos hw]
     rcases h2 with h2 | ⟨h2,a2,w2,h3⟩
     ·exact .inl (zp8 (fun e a w _ hq=>h e a w hq) (Oper.wp_mono (fun a w=>zhv h fuel _ a w) h2))
     ·exact .inr ⟨h2,a2,w2,h _ _ _ h3⟩
    ·rename_i hw;rw [if_neg hw];exact zhv h fuel _ _ _ h2⟩
theorem zps {ops:Array Oper} {Q:Exit→Act→World→Prop} {a:Act} {w:World}:∀ (tl head:List Oper),zr6 md head tl=true →
  wpAny P md head.toArray (Exit.then (fun a w=>wpList P ops Q tl a w) Q) head.length (Array.replicate head.length false) a w→wpAny P md (head ++ tl).toArray Q (head ++ tl).length (Array.replicate (head ++ tl).length false) a w
 | [],head,_,h=>by
  rw [List.append_nil]
  refine zhv (fun e a w hq=>?_) _ _ _ _ h
  cases e<;>exact hq
 | o :: tl,head,hB,h=>by
  simp only [zr6,Bool.and_eq_true] at hB
  obtain ⟨⟨h1,h2⟩,h3⟩:=hB
  have e:head ++ o :: tl=(head ++ [o]) ++ tl:=by simp
  rw [e]
  refine zps (ops:=ops) tl (head ++ [o]) h3 ?_
  have e1:(head ++ [o]).toArray=head.toArray.push o:=by simp
  have e2:Array.replicate (head ++ [o]).length false=(Array.replicate head.length false).push false:=by rw [List.length_append];exact Array.replicate_succ
  rw [e1,e2,List.length_append]
  refine zma h1 _ _ _ _ (by simp) (fun j oj _ hl=>by rw [zaz] at hl;cases hl) ?_
  refine zhv (fun e a w hq=>?_) _ _ _ _ h
  have hg:o.guard=none:=by simpa using h2
  have hmq:∀ e a w,e≠Exit.normal→Q e a w→Exit.then (fun a w=>wpList P ops Q tl a w) Q e a w:=fun e a w hne hq=>by cases e<;>first | exact absurd rfl hne | exact hq
  cases e with
  | normal =>
   show wpOp P (head.toArray.push o) _ head.toArray.size _ a w
   have hq:wpList P ops Q (o :: tl) a w:=hq
   unfold wpList at hq
   unfold wpOp
   have hi:(head.toArray.push o)[head.toArray.size]? = some o:=by simp
   rw [hi]
   have hw:∀ y,Region.wanted o y=true:=fun y=>by simp [Region.wanted,hg]
   simp only [hw,if_true] at hq ⊢
   rcases hq with hq | ⟨hq,a2,w2,h4⟩
   ·exact .inl (zp8 (fun e a w hne hq=>hmq e a w hne hq) hq)
   ·exact .inr ⟨hq,a2,w2,hmq _ _ _ (by simp) h4⟩
  | _=>exact hq
end
theorem zfj {P:Program} {id:Nat} {Q:Exit→Act→World→Prop} {a:Act} {w:World} {ls tl:List Oper} (k:Nat) (htl:ls.drop k=tl) (hT:zr6 .any (ls.take k) tl=true)
  (B:Nat) (hBw:B≤w.heap.size) (S:List Sq) (hd st keep ea:List Bool) (hm:P.follows .mixedOrders=true) (hB:relB (ls.take k) a.tmps.size=true)
  (hO:zcn (ls.take k) (ancL (ls.take k)) hd st=true) (hK:zer (ls.take k).length (ancL (ls.take k)) hd st=keep) (hEa:zb3 (ls.take k).length (ancL (ls.take k)) st=ea) (hsl:st.length=(ls.take k).length) (hhd:S.map (·.hard)=hd∧usB (ls.take k) S=true)
  (hstep:StepsQ P w B (ls.take k) (fun i=>S.getD i sqT) a (st.zip ea) (ls.take k) S)
  (D:List (Option Tmp)) (hDs:(ls.take k).map (·.dst)=D) (hlen:S.length=(ls.take k).length)
  (hend:∀ (val:Nat→Value) (W:World),Below B w W→w.heap.size≤W.heap.size→AllQ keep S 0 val W→wpList P ls.toArray Q tl (putD D 0 val a) W) :
  (Code.region id ls.toArray true).wp P Q a w:=by
 subst htl
 refine wp_region_any hm ?_
 have h:=zps (P:=P) (ops:=ls.toArray) (Q:=Q) (a:=a) (w:={ w with drawn:=w.drawn+1 }) (ls.drop k) (ls.take k) hT
 rw [List.take_append_drop] at h
 refine h ?_
 have h5:=zdc (Q:=Exit.then (fun a w=>wpList P ls.toArray Q (ls.drop k) a w) Q) _ _ _ _ (zl9 (Q:=fun a w=>wpList P ls.toArray Q (ls.drop k) a w) B hBw S hd st keep ea hB hO hK hEa hsl hhd hstep D hDs hlen hend)
 simpa using h5
end Go.Proofs.YtkbaiobnibmmgaaGreat
namespace Go.Proofs.YtkbaiobnibmmgaaGreat
open Go.RowKit Go.Shelf
def RInvJ (J:World→Prop) (w:World) (B:Nat) (ls:List Oper) (S:Nat→Sq) (A:List (List Nat)) (hd st:List Bool) (a:Act) (listed:Array Bool) (a':Act) (W:World):Prop :=
 Below B w W∧J W∧DownC ls listed∧((∀ k,k < ls.length→listed.getD k false=true→st.getD k false=false)→Ext w W)∧∃ val:Nat→Value,(∀ j,j < ls.length→listed.getD j false=true→Alive ls.length A hd st listed j→(S j).p ((S j).us.map val) (val j) W)∧a'.defers=a.defers∧a'.tmps.size=a.tmps.size ∧
  (∀ j s,zap ls j=some s→listed.getD j false=true→a'.tmps[s]? = some (val j))∧(∀ s,(∀ j,listed.getD j false=true→zap ls j≠some s)→a'.tmps[s]? = a.tmps[s]?)
def EffJ (J:World→Prop) (B:Nat) (strong:Bool) (W W':World):Prop:=if strong then Below B W W'∧J W' else Ext W W'
def RunJ (J:World→Prop) (P:Program) (B:Nat) (strong:Bool) (o:Oper) (ρ:Operand→Value) (W:World) (val:Nat→Value) (s:Sq):Prop :=
 match (execOp ρ o).run P W with
 | .ok (.value v) W'=>EffJ J B strong W W'∧s.p (s.us.map val) (match o.dst with | some _=>v | none=>undef) W'
 | .ok .skip W'=>EffJ J B strong W W'∧s.p (s.us.map val) undef W'
 | .ok (.enter f args) W'=>Calls P f args W' fun e W''=>∃ v,e = .returned v∧EffJ J B strong W W''∧s.p (s.us.map val) (match o.dst with | some _=>v | none=>undef) W''
 | _=>False
def StepJ (J:World→Prop) (P:Program) (w:World) (B:Nat) (ls:List Oper) (S:Nat→Sq) (a:Act) (strong early:Bool) (o:Oper) (s:Sq):Prop :=
 ∀ (val:Nat→Value) (ρ:Operand→Value) (W:World),Below B w W→J W→w.heap.size≤W.heap.size→(∀ j∈znu ls o,(S j).p ((S j).us.map val) (val j) W)→Holds ls a o val ρ→(early=true→Ext w W)→RunJ J P B strong o ρ W val s
theorem EffJ.below {J:World→Prop} {B:Nat} {s:Bool} {W W':World} (h:EffJ J B s W W') (hB:B≤W.heap.size):Below B W W':=by
 unfold EffJ at h
 cases s
 ·exact h.mono hB
 ·exact h.1
theorem EffJ.keeps {J:World→Prop} (hm:∀ W W',J W→Ext W W'→J W') {B:Nat} {s:Bool} {W W':World} (h:EffJ J B s W W') (hJ:J W):J W':=by
 unfold EffJ at h
 cases s
 ·exact hm _ _ hJ h
 ·exact h.2
theorem z94 {J:World→Prop} (hJm:∀ W W',J W→Ext W W'→J W') {P:Program} {w:World} {B:Nat} (hBw:B≤w.heap.size) {ls:List Oper} {S:Nat→Sq} {A:List (List Nat)} {hd st:List Bool} {a:Act} {Q:Act→World→Prop} (hB:relB ls a.tmps.size=true) (hO:zcn ls A hd st=true)
  (hhd:∀ j,hd.getD j true=true→(S j).hard=true) (hus:∀ i o,ls[i]? = some o→∀ k∈(S i).us,k∈zao o)
  (hstep:∀ i o,ls[i]? = some o→StepJ J P w B ls S a (st.getD i false) ((zb3 ls.length A st).getD i false) o (S i))
  (hend:∀ (val:Nat→Value) (W:World),Below B w W→J W→(∀ j,j < ls.length→(∀ k,k < ls.length→zff A hd st k j=false)→(S j).p ((S j).us.map val) (val j) W)→Q (zav ls val a (List.range ls.length)) W) :
  ∀ (fuel:Nat) (listed:Array Bool) (a':Act) (W:World),listed.size=ls.length→(List.range ls.length).countP (fun j=>!listed.getD j false)≤fuel→w.heap.size≤W.heap.size→RInvJ J w B ls S A hd st a listed a' W →
   wpAnyL P .any ls.toArray Q fuel listed a' W:=by
 simp only [zcn,Bool.and_eq_true] at hO
 obtain ⟨hA,hO⟩:=hO
 have fin:∀ (listed:Array Bool) (a':Act) (W:World),listed.size=ls.length→RInvJ J w B ls S A hd st a listed a' W→(∀ j,j < ls.length→listed.getD j false=true)→Q a' W:=by
  intro listed a' W hs ⟨hE,hJW,hc,_,val,h1,h2,h3,h4,h5⟩ hall
  have e:a'=zav ls val a (List.range ls.length):=by
   refine zze (by rw [h2,zhs]) (by rw [h3,zl5]) fun s=>?_
   by_cases hx:∃ j,j < ls.length∧zap ls j=some s
   ·obtain ⟨j,hj,hd⟩:=hx
    have hj':ls[j]? = some ls[j]:=List.getElem?_eq_getElem hj
    have hR:=zcy hB hj'
    have hdst:ls[j].dst=some s:=by unfold zap at hd;rw [hj'] at hd;exact hd
    rw [h4 j s hd (hall j hj),zev val hd _ _ (fun k hk hd2=>?_) (hR.d s hdst) (.inl (List.mem_range.2 hj))]
    by_cases hkj:k=j
    ·exact hkj
    ·exact absurd hd2 (hR.ne k (List.mem_range.1 hk) hkj s hdst)
   ·rw [h5 s fun j hl hd=>hx ⟨j,?_,hd⟩,zd0 ls val _ _ fun j hj hd=>hx ⟨j,List.mem_range.1 hj,hd⟩]
    unfold zap at hd
    rcases Nat.lt_or_ge j ls.length with hj | hj
    ·exact hj
    ·rw [List.getElem?_eq_none hj] at hd;cases hd
  rw [e]
  exact hend val W hE hJW fun j hj hk=>h1 j hj (hall j hj) fun k hkl _=>hk k hkl
 have allL:∀ (listed:Array Bool),listed.size=ls.length→Region.ready .any ls.toArray listed=[]→∀ j,j < ls.length→listed.getD j false=true:=by
  intro listed hs h0 j
  induction j using Nat.strongRecOn with
  | _ j ih =>
   intro hj
   cases hl:listed.getD j false with
   | true=>rfl
   | false =>
    exfalso
    have hj':ls[j]? = some ls[j]:=List.getElem?_eq_getElem hj
    have hR:=zcy hB hj'
    have hin:j∈Region.ready .any ls.toArray listed:=by
     refine mem_ready.2 ⟨?_,ls[j],by simp [hj],fun e he hb=>?_⟩
     ·have hjs:j < listed.size:=by omega
      simp [hjs] at hl ⊢
      exact hl
     ·have hd:e.on∈zao ls[j]:=List.mem_map.2 ⟨e,List.mem_filter.2 ⟨by simpa using he,hb⟩,rfl⟩
      have hlt:=hR.dep _ hd
      exact ih _ hlt (by omega)
    rw [h0] at hin
    cases hin
 have step:∀ (listed:Array Bool) (a':Act) (W:World) (i:Nat) (K:Act→World→Prop),listed.size=ls.length→w.heap.size≤W.heap.size→RInvJ J w B ls S A hd st a listed a' W→i∈Region.ready .any ls.toArray listed →
   (∀ a2 W2,w.heap.size≤W2.heap.size→RInvJ J w B ls S A hd st a (listed.setIfInBounds i true) a2 W2→K a2 W2)→zl8 P ls.toArray i K a' W:=by
  intro listed a' W i K hs hsz0 ⟨hE,hJW,hc,hx0,val,h1,h2,h3,h4,h5⟩ hi hK
  obtain ⟨hl,o,ho,hdeps⟩:=mem_ready.1 hi
  have ho':ls[i]? = some o:=by simpa using ho
  have hilt:i < ls.length:=(List.getElem?_eq_some_iff.1 ho').1
  have hR:=zcy hB ho'
  have hdl:∀ j∈zao o,listed.getD j false=true:=fun j hj=>by
   obtain ⟨e,he,rfl⟩:=List.mem_map.1 hj
   obtain ⟨he1,he2⟩:=List.mem_filter.1 he
   exact hdeps e (by simpa using he1) he2
  have hilf:listed.getD i false=false:=by
   have:i < listed.size:=by omega
   simp [this] at hl ⊢
   exact hl
  have hnl:∀ {b:Prop},listed.getD i false=true→b:=fun h=>by rw [hilf] at h;cases h
  have hanc:=zrc hB hA hc
  have hev:∀ x∈o.op.operands,a'.eval x=(zav ls val a (zao o)).eval x:=fun x hx=>by
   cases x with
   | tmp s =>
    have hh:a'.tmps[s]? = (zav ls val a (zao o)).tmps[s]?:=by
     rcases hR.x s hx with ⟨j,hj,hd⟩ | hno
     ·have hji:=hR.dep j hj
      have hj':ls[j]? = some (ls[j]'(by omega)):=List.getElem?_eq_getElem (by omega)
      have hRj:=zcy hB hj'
      have hdst:(ls[j]'(by omega)).dst=some s:=by unfold zap at hd;rw [hj'] at hd;exact hd
      rw [h4 j s hd (hdl j hj),zev val hd _ _ (fun k hk hd2=>?_) (hRj.d s hdst) (.inl hj)]
      by_cases hkj:k=j
      ·exact hkj
      ·exact absurd hd2 (hRj.ne k (by have:=hR.dep k hk;omega) hkj s hdst)
     ·rw [h5 s fun j hl hd=>?_,zd0 ls val _ _ fun j hj=>hno j (by have:=hR.dep j hj;omega)]
      rcases Nat.lt_or_ge j ls.length with hj | hj
      ·exact hno j hj hd
      ·unfold zap at hd;rw [List.getElem?_eq_none hj] at hd;cases hd
    simp only [Act.eval,Array.getD_eq_getD_getElem?,hh]
   | _=>rfl
  have hx:=execOp_congr o hR.s hev
  have hH:Holds ls a o val (zav ls val a (zao o)).eval:=by
   refine ⟨fun j hj t ht=>?_,fun t ht=>?_,fun _=>rfl,fun _=>rfl⟩
   ·have hji:=hR.dep j hj
    have hj':ls[j]? = some (ls[j]'(by omega)):=List.getElem?_eq_getElem (by omega)
    have hRj:=zcy hB hj'
    have hdst:(ls[j]'(by omega)).dst=some t:=by unfold zap at ht;rw [hj'] at ht;exact ht
    have:=zev val ht (zao o) a (fun k hk hd2=>by
     by_cases hkj:k=j
     ·exact hkj
     ·exact absurd hd2 (hRj.ne k (by have:=hR.dep k hk;omega) hkj t hdst)) (hRj.d t hdst) (.inl hj)
    simp [Act.eval,Array.getD_eq_getD_getElem?,this]
   ·have:=zd0 ls val (zao o) a (fun j hj=>ht j hj)
    simp only [Act.eval,Array.getD_eq_getD_getElem?,this]
  have hdepS:∀ j∈znu ls o,(S j).p ((S j).us.map val) (val j) W:=fun j hju=>by
   have hj:j∈zao o:=(List.mem_filter.1 hju).1
   refine h1 j (by have:=hR.dep j hj;omega) (hdl j hj) fun k hk hlk=>?_
   cases hkl:zff A hd st k j with
   | false=>rfl
   | true =>
    have q:=List.all_eq_true.1 hO i (List.mem_range.2 hilt)
    rw [ho'] at q
    have q2:=List.all_eq_true.1 (List.all_eq_true.1 q j hju) k (List.mem_range.2 hk)
    rw [hkl] at q2
    simp only [Bool.not_true,Bool.false_or,Bool.or_eq_true] at q2
    rcases q2 with q2 | q2
    ·have:k=i:=by simpa using q2
     subst this;exact hnl hlk
    ·exact hnl (hanc k hk hlk i (by simpa using q2))
  have hw:=hstep i o ho' val _ W hE hJW hsz0 hdepS hH fun he=>hx0 fun k hk hlk=>by
   simp only [zb3,List.getD_eq_getElem?_getD,List.getElem?_map,List.getElem?_range hilt,Option.map_some,Option.getD_some] at he
   have q:=List.all_eq_true.1 he k (List.mem_range.2 hk)
   simp only [Bool.or_eq_true,Bool.not_eq_true'] at q
   rcases q with (q | q) | q
   ·simpa [List.getD_eq_getElem?_getD] using q
   ·have:k=i:=by simpa using q
    subst this;exact hnl hlk
   ·exact hnl (hanc k hk hlk i (by simpa [List.getD_eq_getElem?_getD] using q))
  have hwant:∀ y,Region.wanted o y=true:=fun y=>by simp [Region.wanted,hR.g]
  unfold zl8
  rw [ho]
  simp only
  rw [if_pos (hwant _)]
  have hupd:∀ (j:Nat) (oj:Oper),ls[j]? = some oj→(listed.getD j false=true∨j=i)→(S j).us.map (fun k=>if k=i then (match o.dst with | some _=>undef | none=>undef) else val k)=(S j).us.map val∧∀ u:Value,(S j).us.map (fun k=>if k=i then u else val k)=(S j).us.map val:=fun j oj hj hlj=>by
   have key:∀ u:Value,(S j).us.map (fun k=>if k=i then u else val k)=(S j).us.map val:=fun u=>List.map_congr_left fun k hk=>by
    have hkd:=hus j oj hj k hk
    have hkl:listed.getD k false=true:=by
     rcases hlj with h | rfl
     ·exact hc j oj hj h k hkd
     ·rw [ho'] at hj;cases hj;exact hdl k hkd
    have:k≠i:=fun e=>by subst e;exact hnl hkl
    rw [if_neg this]
   exact ⟨key _,key⟩
  have next:∀ v W',EffJ J B (st.getD i false) W W'→(S i).p ((S i).us.map val) (match o.dst with | some _=>v | none=>undef) W'→K (a'.put o.dst v) W':=fun v W' hE' hS=>by
   have hsz1:W.heap.size≤W'.heap.size:=by
    unfold EffJ at hE'
    split at hE'
    ·exact hE'.1.size
    ·exact hE'.size
   refine hK _ _ (by omega) ⟨hE.trans (hE'.below (by omega)),hE'.keeps hJm hJW,fun j oj hj hlj d hd=>?_,fun hns=>?_,fun j=>if j=i then (match o.dst with | some _=>v | none=>undef) else val j,fun j hj hlj hal=>?_,by rw [put_defers,h2],by rw [zl4,h3],fun j s hd hlj=>?_,fun s hno=>?_⟩
   ·by_cases hji:j=i
    ·subst hji
     rw [ho'] at hj
     cases hj
     exact getD_set_true (hdl d hd)
    ·rw [getD_set_ne false (Ne.symm hji)] at hlj
     exact getD_set_true (hc j oj hj hlj d hd)
   ·have hst:=hns i hilt (by simp [hs,hilt])
    rw [hst] at hE'
    exact (hx0 fun k hk hlk=>hns k hk (getD_set_true hlk)).trans' hE'
   ·by_cases hji:j=i
    ·subst hji;rw [(hupd j o ho' (.inr rfl)).2];simp only [if_true];exact hS
    ·rw [getD_set_ne false (Ne.symm hji)] at hlj
     rw [(hupd j _ (List.getElem?_eq_getElem hj) (.inl hlj)).2]
     simp only [hji,if_false]
     have hold:=h1 j hj hlj fun k hk hlk=>hal k hk (getD_set_true hlk)
     have hki:=hal i hilt (by simp [hs,hilt])
     cases hst:st.getD i false with
     | false =>
      rw [hst] at hE'
      exact (S j).m _ _ _ _ hold hE'
     | true =>
      unfold zff at hki
      rw [hst] at hki
      have hij:(i == j)=false:=by simpa using fun h=>hji h.symm
      rw [hij] at hki
      simp only [Bool.true_and,Bool.not_false,Bool.and_true,Bool.and_eq_false_iff,Bool.not_eq_false'] at hki
      rcases hki with hki | hki
      ·exact (S j).hm (hhd j hki) _ _ _ _ hold
      ·exact hnl (hanc j hj hlj i (by simpa using hki))
   ·by_cases hji:j=i
    ·subst hji
     have hdst:o.dst=some s:=by unfold zap at hd;rw [ho'] at hd;exact hd
     simp only [if_true,hdst]
     exact zw4 _ _ (by rw [h3];exact hR.d s hdst)
    ·rw [getD_set_ne false (Ne.symm hji)] at hlj
     simp only [hji,if_false]
     rw [zg5,h4 j s hd hlj]
     intro hdst
     rcases Nat.lt_or_ge j ls.length with hj | hj
     ·exact hR.ne j hj hji s hdst hd
     ·unfold zap at hd;rw [List.getElem?_eq_none hj] at hd;cases hd
   ·have hoi:o.dst≠some s:=by
     have:=hno i (by simp [hs,hilt])
     unfold zap at this
     rw [ho'] at this
     exact this
    rw [zg5 _ _ hoi,h5 s fun j hlj=>hno j (getD_set_true hlj)]
  unfold RunJ at hw
  unfold wpL1
  rw [hx]
  generalize (execOp (zav ls val a (zao o)).eval o).run P W=r at *
  cases r with
  | ok x W' =>
   cases x<;>simp only at hw ⊢
   case value v=>exact next v W' hw.1 hw.2
   case skip=>exact next undef W' hw.1 (by cases o.dst<;>exact hw.2)
   case enter f args =>
    refine Calls.mono hw fun e W'' ⟨v,he,q1,q2⟩=>?_
    subst he
    exact ⟨v,rfl,next v W'' q1 q2⟩
  | halt x W'=>cases hw
 intro fuel
 induction fuel with
 | zero =>
  intro listed a' W hs hf hz hW
  have hall:∀ j,j < ls.length→listed.getD j false=true:=fun j hj=>by
   have h0:(List.range ls.length).countP (fun j=>!listed.getD j false)=0:=by omega
   rw [List.countP_eq_zero] at h0
   have:=h0 j (List.mem_range.2 hj)
   simpa using this
  refine ⟨?_,fin listed a' W hs hW hall⟩
  rcases hr:Region.ready .any ls.toArray listed with _ | ⟨k,rs⟩
  ·rfl
  ·exfalso
   have hk:k∈Region.ready .any ls.toArray listed:=by rw [hr];simp
   obtain ⟨g1,ok,g2,_⟩:=mem_ready.1 hk
   have hlt:k < ls.length:=by have:=(Array.getElem?_eq_some_iff.1 g2).1;simpa using this
   have hka:=hall k hlt
   have:k < listed.size:=by omega
   simp [this] at g1 hka
   rw [g1] at hka
   cases hka
 | succ fuel ih =>
  intro listed a' W hs hf hz hW
  refine ⟨fun h0=>fin listed a' W hs hW (allL listed hs h0),fun i hi=>?_⟩
  refine step listed a' W i _ hs hz hW hi fun a2 W2 hz2 hW2=>ih _ a2 W2 (by simpa using hs) ?_ hz2 hW2
  obtain ⟨hl,o,ho,_⟩:=mem_ready.1 hi
  have hilt:i < ls.length:=by have:=(Array.getElem?_eq_some_iff.1 ho).1;simpa using this
  have his:i < listed.size:=by omega
  have hcnt:=zl6 (fun j=>!listed.getD j false) (fun j=>!(listed.setIfInBounds i true).getD j false) i ls.length (fun j hj=>by rw [getD_set_ne false (Ne.symm hj)]) (by simp [his] at hl ⊢;exact hl) (by simp [his]) hilt
  omega
def StepsJ (J:World→Prop) (P:Program) (w:World) (B:Nat) (ls:List Oper) (S:Nat→Sq) (a:Act):List (Bool × Bool)→List Oper→List Sq→Prop
 | _,[],_=>True
 | _,_ :: _,[]=>False
 | [],_ :: _,_ :: _=>False
 | b :: bs,o :: os,s :: ss=>StepJ J P w B ls S a b.1 b.2 o s∧StepsJ J P w B ls S a bs os ss
theorem StepsJ.at {J:World→Prop} {P:Program} {w:World} {B:Nat} {ls:List Oper} {S:Nat→Sq} {a:Act}:∀ {st:List (Bool × Bool)} {os:List Oper} {ss:List Sq},StepsJ J P w B ls S a st os ss→∀ {j:Nat} {o:Oper},os[j]? = some o→StepJ J P w B ls S a (st.getD j (false,false)).1 (st.getD j (false,false)).2 o (ss.getD j sqT)
 | _,[],_,_,j,o,h=>by simp at h
 | bs,x :: os,[],hs,_,_,_=>by cases bs<;>exact False.elim hs
 | [],x :: os,s :: ss,hs,_,_,_=>False.elim hs
 | b :: bs,x :: os,s :: ss,hs,0,o,h=>by
  simp at h
  subst h
  exact hs.1
 | b :: bs,x :: os,s :: ss,hs,j+1,o,h=>by
  have:=StepsJ.at hs.2 (j:=j) (o:=o) (by simpa using h)
  simpa using this
theorem z3l {J:World→Prop} (hJm:∀ W W',J W→Ext W W'→J W') {P:Program} {Q:Act→World→Prop} {a:Act} {w:World} {ls:List Oper} (hJw:J w) (B:Nat) (hBw:B≤w.heap.size) (S:List Sq) (hd st keep ea:List Bool) (hB:relB ls a.tmps.size=true)
  (hO:zcn ls (ancL ls) hd st=true) (hK:zer ls.length (ancL ls) hd st=keep) (hEa:zb3 ls.length (ancL ls) st=ea) (hsl:st.length=ls.length) (hhd:S.map (·.hard)=hd∧usB ls S=true)
  (hstep:StepsJ J P w B ls (fun i=>S.getD i sqT) a (st.zip ea) ls S)
  (D:List (Option Tmp)) (hDs:ls.map (·.dst)=D) (hlen:S.length=ls.length)
  (hend:∀ (val:Nat→Value) (W:World),Below B w W→J W→w.heap.size≤W.heap.size→AllQ keep S 0 val W→Q (putD D 0 val a) W) :
  wpAnyL P .any ls.toArray Q ls.toArray.size (Array.replicate ls.toArray.size false) a { w with drawn:=w.drawn+1 }:=by
 have hend:∀ (val:Nat→Value) (W:World),Below B w W→J W→(∀ j,j < ls.length→(∀ k,k < ls.length→zff (ancL ls) hd st k j=false)→(S.getD j sqT).p ((S.getD j sqT).us.map val) (val j) W)→Q (zav ls val a (List.range ls.length)) W:=fun val W hE hJW hS=>by
  rw [List.range_eq_range',zl7 ls 0 a (fun j o hj=>by rw [Nat.zero_add];unfold zap;rw [hj];rfl),hDs]
  refine hend val W hE hJW hE.size (zst S 0 fun j hj hk=>?_)
  rw [Nat.zero_add] at hk ⊢
  refine hS j (by omega) fun k hkl=>?_
  rw [← hK] at hk
  unfold zer at hk
  have hjl:j < ls.length:=by omega
  simp only [List.getD_eq_getElem?_getD,List.getElem?_map,List.getElem?_range hjl,Option.map_some,Option.getD_some] at hk
  have:=List.all_eq_true.1 hk k (List.mem_range.2 hkl)
  simpa using this
 refine z94 hJm (A:=ancL ls) (hd:=hd) (st:=st) hBw (S:=fun i=>S.getD i sqT) hB hO (fun j hj=>?_) (fun i o hi k hk=>by
   have h1:=List.all_eq_true.1 hhd.2 i (List.mem_range.2 (List.getElem?_eq_some_iff.1 hi).1)
   rw [hi] at h1
   have h2:=List.all_eq_true.1 h1 k hk
   simpa using h2) (fun i o hi=>?hst) hend _ _ _ _ (by simp) ?_ (Nat.le_refl _) ⟨Below.drew (Below.refl _ _),hJm _ _ hJw (Ext.dr (Below.refl _ _)),fun j o _ hl=>?_,fun _=>Ext.dr (Below.refl _ _),fun _=>undef,fun j _ hl=>?_,rfl,rfl,fun j s _ hl=>?_,fun _ _=>rfl⟩
 ·rw [← hhd.1] at hj
  rcases Nat.lt_or_ge j S.length with h | h
  ·simpa [List.getD_eq_getElem?_getD,h] using hj
  ·simp [List.getD_eq_getElem?_getD,h,sqT]
 ·have h1:=hstep.at hi
  have hil:i < ls.length:=(List.getElem?_eq_some_iff.1 hi).1
  have hel:ea.length=ls.length:=by rw [← hEa];simp [zb3]
  have hz:(st.zip ea).getD i (false,false)=(st.getD i false,ea.getD i false):=by
   simp only [List.getD_eq_getElem?_getD,List.getElem?_eq_getElem (show i < (st.zip ea).length by simp;omega),List.getElem?_eq_getElem (show i < st.length by omega),List.getElem?_eq_getElem (show i < ea.length by omega),Option.getD_some,List.getElem_zip]
  rw [hz] at h1
  rw [hEa]
  exact h1
 ·have:=List.countP_le_length (p:=fun j=>!((Array.replicate ls.toArray.size false).getD j false)) (l:=List.range ls.length)
  simpa using this
 ·rw [zaz] at hl;cases hl
 ·rw [zaz] at hl;cases hl
 ·rw [zaz] at hl;cases hl
theorem zme {J:World→Prop} (hJm:∀ W W',J W→Ext W W'→J W') {P:Program} {id:Nat} {Q:Exit→Act→World→Prop} {a:Act} {w:World} {hd0:List Oper} {o:Oper} {ls:List Oper} (hls:ls=hd0 ++ [o]) (hg:o.guard=none) (hL:lastB .any hd0.toArray o=true)
  (hJw:J w) (B:Nat) (hBw:B≤w.heap.size) (S:List Sq) (hd st keep ea:List Bool) (hm:P.follows .mixedOrders=true) (hB:relB hd0 a.tmps.size=true)
  (hO:zcn hd0 (ancL hd0) hd st=true) (hK:zer hd0.length (ancL hd0) hd st=keep) (hEa:zb3 hd0.length (ancL hd0) st=ea) (hsl:st.length=hd0.length) (hhd:S.map (·.hard)=hd∧usB hd0 S=true)
  (hstep:StepsJ J P w B hd0 (fun i=>S.getD i sqT) a (st.zip ea) hd0 S)
  (D:List (Option Tmp)) (hDs:hd0.map (·.dst)=D) (hlen:S.length=hd0.length)
  (hend:∀ (val:Nat→Value) (W:World),Below B w W→J W→w.heap.size≤W.heap.size→AllQ keep S 0 val W→wpList P ls.toArray Q [o] (putD D 0 val a) W) :
  (Code.region id ls.toArray true).wp P Q a w:=by
 subst hls
 have e:(hd0 ++ [o]).toArray=hd0.toArray.push o:=by simp
 rw [e] at hend ⊢
 refine wp_region_any hm ?_
 have e2:Array.replicate (hd0.toArray.push o).size false=(Array.replicate hd0.toArray.size false).push false:=by
  rw [Array.size_push,Array.replicate_succ]
 rw [e2,Array.size_push]
 refine zma hL _ _ _ _ (by simp) (fun j oj _ hl=>by rw [zaz] at hl;cases hl) ?_
 have hend':∀ (val:Nat→Value) (W:World),Below B w W→J W→w.heap.size≤W.heap.size→AllQ keep S 0 val W→Exit.then (fun a w=>wpOp P (hd0.toArray.push o) Q hd0.toArray.size (Q .normal) a w) Q .normal (putD D 0 val a) W:=by
  intro val W h1 hj h2 h3
  have h:=hend val W h1 hj h2 h3
  unfold wpList at h
  simp only [Exit.then]
  unfold wpOp
  have hi:(hd0.toArray.push o)[hd0.toArray.size]? = some o:=by simp
  rw [hi]
  have hw:∀ y,Region.wanted o y=true:=fun y=>by simp [Region.wanted,hg]
  simp only [hw,if_true] at h ⊢
  exact h
 exact zdc _ _ _ _ (z3l hJm hJw B hBw S hd st keep ea hB hO hK hEa hsl hhd hstep D hDs hlen hend')
theorem zmf {J:World→Prop} (hJm:∀ W W',J W→Ext W W'→J W') {P:Program} {id:Nat} {Q:Exit→Act→World→Prop} {a:Act} {w:World} {o:Oper} {ls:List Oper} (ho:ls.getLast? = some o) (hg:o.guard=none) (hL:lastB .any ls.dropLast.toArray o=true)
  (hJw:J w) (B:Nat) (hBw:B≤w.heap.size) (S:List Sq) (hd st keep ea:List Bool) (hm:P.follows .mixedOrders=true) (hB:relB ls.dropLast a.tmps.size=true)
  (hO:zcn ls.dropLast (ancL ls.dropLast) hd st=true) (hK:zer ls.dropLast.length (ancL ls.dropLast) hd st=keep) (hEa:zb3 ls.dropLast.length (ancL ls.dropLast) st=ea) (hsl:st.length=ls.dropLast.length) (hhd:S.map (·.hard)=hd∧usB ls.dropLast S=true)
  (hstep:StepsJ J P w B ls.dropLast (fun i=>S.getD i sqT) a (st.zip ea) ls.dropLast S)
  (D:List (Option Tmp)) (hDs:ls.dropLast.map (·.dst)=D) (hlen:S.length=ls.dropLast.length)
  (hend:∀ (val:Nat→Value) (W:World),Below B w W→J W→w.heap.size≤W.heap.size→AllQ keep S 0 val W→wpList P ls.toArray Q [o] (putD D 0 val a) W) :
  (Code.region id ls.toArray true).wp P Q a w:=by
 refine zme hJm ?_ hg hL hJw B hBw S hd st keep ea hm hB hO hK hEa hsl hhd hstep D hDs hlen hend
 have hne:ls≠[]:=by intro e;rw [e] at ho;cases ho
 rw [List.getLast?_eq_some_getLast hne] at ho
 have:=List.dropLast_concat_getLast hne
 rw [← this]
 cases ho
 simp
section
variable {J:World→Prop} {P:Program} {B:Nat} {strong:Bool} {o:Oper} {ρ:Operand→Value} {W:World} {val:Nat→Value} {s:Sq}
theorem zcc {v:Value} {W':World} (h:(execOp ρ o).run P W = .ok (.value v) W') (he:EffJ J B strong W W') (hs:s.p (s.us.map val) (match o.dst with | some _=>v | none=>undef) W'):RunJ J P B strong o ρ W val s:=by
 unfold RunJ;rw [h];exact ⟨he,hs⟩
end
end Go.Proofs.YtkbaiobnibmmgaaGreat
