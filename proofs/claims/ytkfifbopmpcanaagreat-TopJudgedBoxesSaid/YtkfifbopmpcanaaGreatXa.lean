/-
  Plain: the boxes into which a card of races is cut, by tickets: what a box yields says of each ticket whether it has all of it or nothing.
-/
import Derived.Test.YtkfifbopmpcanaaGreatHb
import Derived.Test.YtkfifbopmpcanaaGreatBb
import Derived.Test.YtkfifbopmpcanaaGreatBa
import Derived.Test.YtkfifbopmpcanaaGreatPa
import Derived.Test.YtkfifbopmpcanaaGreatBc
namespace Go.Proofs.YtkfifbopmpcanaaGreat
def zbi (ts:List (List Nat)) (race:Nat) (al:List Bool) (i:Nat):List Bool :=
 (List.range ts.length).map fun j=>al.getD j false && (((ts.getD j []).getD race 0).testBit i)
def ownB (left n i:Nat) (cls:Nat→List Bool):Nat→Nat
 | 0=>0
 | m+1=>let k:=n - (m+1);let o:=ownB left n i cls m
      if i≤k∧left.testBit k=true∧cls k=cls i then 2 ^ k ||| o else o
theorem zg3 (left n i:Nat) (cls:Nat→List Bool):∀ {m:Nat},m≤n→∀ k,(ownB left n i cls m).testBit k=decide (n - m≤k∧k < n∧i≤k∧left.testBit k=true∧cls k=cls i)
 | 0,_,k=>by
  simp only [ownB,Nat.zero_testBit]
  symm
  rw [decide_eq_false_iff_not]
  omega
 | m+1,h,k=>by
  have ih:=zg3 left n i cls (m:=m) (by omega) k
  simp only [ownB]
  by_cases hc:i≤n - (m+1)∧left.testBit (n - (m+1))=true∧cls (n - (m+1))=cls i
  ·rw [if_pos hc,Nat.testBit_or,Nat.testBit_two_pow,ih,Bool.eq_iff_iff,Bool.or_eq_true,decide_eq_true_eq,decide_eq_true_eq,decide_eq_true_eq]
   constructor
   ·rintro (rfl | ⟨a,b,c⟩)
    ·exact ⟨by omega,by omega,hc⟩
    ·exact ⟨by omega,b,c⟩
   ·rintro ⟨a,b,c⟩
    by_cases e:n - (m+1)=k
    ·exact .inl e
    ·exact .inr ⟨by omega,b,c⟩
  ·rw [if_neg hc,ih,decide_eq_decide]
   constructor
   ·rintro ⟨a,b,c⟩
    exact ⟨by omega,b,c⟩
   ·rintro ⟨a,b,c⟩
    refine ⟨?_,b,c⟩
    rcases Nat.lt_or_ge k (n - m) with h1 | h1
    ·have:k=n - (m+1):=by omega
     subst this
     exact absurd c hc
    ·exact h1
def zc8 (left own:Nat):Nat:=left ^^^ (left &&& own)
theorem zwz (left own k:Nat):(zc8 left own).testBit k=(left.testBit k && !own.testBit k):=by
 unfold zc8
 rw [Nat.testBit_xor,Nat.testBit_and]
 cases left.testBit k<;>cases own.testBit k<;>rfl
abbrev Lf:=List Nat × List Bool
def zbx (g:List Nat→List Bool→List Lf) (cls:Nat→List Bool) (sets:List Nat) (race n:Nat):Nat→Nat→List Lf
 | 0,_=>[]
 | m+1,left =>
  let i:=n - (m+1)
  if left.testBit i=true then
   let own:=ownB left n i cls n
   g (sets.set race own) (cls i) ++ zbx g cls sets race n m (zc8 left own)
  else zbx g cls sets race n m left
def cutB (rs:List Nat) (ts:List (List Nat)):Nat→List Nat→List Bool→List Lf
 | 0,sets,al=>[(sets,al)]
 | f+1,sets,al =>
  if al.all (fun b=>!b)=true then [(sets,al)]
  else
   let race:=rs.length - (f+1)
   zbx (cutB rs ts f) (zbi ts race al) sets race (rs.getD race 0) (rs.getD race 0) (sets.getD race 0)
def allB (rs:List Nat):List Nat:=rs.map fun n=>2 ^ n - 1
def zbd (rs:List Nat) (ts:List (List Nat)):List Lf:=cutB rs ts rs.length (allB rs) (List.replicate ts.length true)
def sub (a b:Nat):Prop:=∀ k,a.testBit k=true→b.testBit k=true
structure InvB (rs:List Nat) (ts:List (List Nat)) (race:Nat) (sets:List Nat) (al:List Bool):Prop where
 len:sets.length=rs.length
 alen:al.length=ts.length
 some_:∀ r,r < race→∃ k,(sets.getD r 0).testBit k=true
 yes:∀ j,j < ts.length→al.getD j false=true→∀ r,r < race→sub (sets.getD r 0) ((ts.getD j []).getD r 0)
 no:∀ j,j < ts.length→al.getD j false=false→∃ r,r < race∧∀ k,(sets.getD r 0).testBit k=true→((ts.getD j []).getD r 0).testBit k=false
theorem zfr (ts:List (List Nat)) (race:Nat) (al:List Bool) (i:Nat):(zbi ts race al i).length=ts.length:=by simp [zbi]
theorem zg4 {ts:List (List Nat)} {race:Nat} {al:List Bool} {i j:Nat} (hj:j < ts.length):(zbi ts race al i).getD j false=(al.getD j false && (((ts.getD j []).getD race 0).testBit i)):=by
 unfold zbi
 rw [List.getD_eq_getElem?_getD,List.getElem?_map,List.getElem?_range hj]
 rfl
theorem zeq (l:List Nat) (r i v:Nat) (h:r < l.length):(l.set r v).getD i 0=if i=r then v else l.getD i 0:=by
 rw [List.getD_eq_getElem?_getD,List.getElem?_set]
 by_cases e:r=i
 ·subst e;simp [h]
 ·rw [if_neg e,if_neg (fun h=>e h.symm),List.getD_eq_getElem?_getD]
theorem z40 {rs:List Nat} {ts:List (List Nat)} {race:Nat} {sets:List Nat} {al:List Bool} (h:InvB rs ts race sets al) (hr:race < rs.length) {own i:Nat} (hi:own.testBit i=true) (hc:∀ k,own.testBit k=true→zbi ts race al k=zbi ts race al i) :
  InvB rs ts (race+1) (sets.set race own) (zbi ts race al i):=by
 have hl:race < sets.length:=by rw [h.len];exact hr
 have hold:∀ r,r < race→(sets.set race own).getD r 0=sets.getD r 0:=fun r hlt=>by rw [zeq _ _ _ _ hl,if_neg (by omega)]
 have hnew:(sets.set race own).getD race 0=own:=by rw [zeq _ _ _ _ hl,if_pos rfl]
 refine ⟨by rw [List.length_set];exact h.len,zfr _ _ _ _,fun r hlt=>?_,fun j hj ha r hlt=>?_,fun j hj ha=>?_⟩
 ·rcases Nat.lt_or_ge r race with h1 | h1
  ·rw [hold r h1];exact h.some_ r h1
  ·have:r=race:=by omega
   subst this
   exact ⟨i,by rw [hnew];exact hi⟩
 ·rw [zg4 hj,Bool.and_eq_true] at ha
  rcases Nat.lt_or_ge r race with h1 | h1
  ·rw [hold r h1];exact h.yes j hj ha.1 r h1
  ·have:r=race:=by omega
   subst this
   rw [hnew]
   intro k hk
   have h2:=congrArg (fun l=>l.getD j false) (hc k hk)
   simp only [zg4 hj,ha.1,Bool.true_and] at h2
   rw [h2];exact ha.2
 ·rw [zg4 hj,Bool.and_eq_false_iff] at ha
  by_cases ho:al.getD j false=true
  ·refine ⟨race,by omega,fun k hk=>?_⟩
   rw [hnew] at hk
   have h2:=congrArg (fun l=>l.getD j false) (hc k hk)
   simp only [zg4 hj,ho,Bool.true_and] at h2
   rw [h2]
   rcases ha with ha | ha
   ·rw [ho] at ha;cases ha
   ·exact ha
  ·obtain ⟨r,h1,h2⟩:=h.no j hj (by simpa using ho)
   exact ⟨r,by omega,fun k hk=>h2 k (by rw [← hold r h1];exact hk)⟩
structure Leaf (rs:List Nat) (ts:List (List Nat)) (x:Lf):Prop where
 len:x.1.length=rs.length
 alen:x.2.length=ts.length
 iff_:∀ j,j < ts.length→(x.2.getD j false=true↔∀ r,r < rs.length→sub (x.1.getD r 0) ((ts.getD j []).getD r 0))
theorem zy9 {rs:List Nat} {ts:List (List Nat)} {race:Nat} {sets:List Nat} {al:List Bool} (h:InvB rs ts race sets al) (hr:race≤rs.length) (he:race=rs.length∨∀ j,j < ts.length→al.getD j false=false):Leaf rs ts (sets,al):=by
 refine ⟨h.len,h.alen,fun j hj=>⟨fun ha r hlt=>?_,fun hall=>?_⟩⟩
 ·rcases he with he | he
  ·exact h.yes j hj ha r (by omega)
  ·rw [he j hj] at ha;cases ha
 ·cases ha:al.getD j false with
  | true=>rfl
  | false =>
   obtain ⟨r,h1,h2⟩:=h.no j hj ha
   obtain ⟨k,hk⟩:=h.some_ r h1
   have h3:=hall r (by omega) k hk
   rw [h2 k hk] at h3;cases h3
theorem zni {rs:List Nat} {ts:List (List Nat)} {g:List Nat→List Bool→List Lf} {race:Nat} {sets:List Nat} {al:List Bool} {n:Nat} (h:InvB rs ts race sets al) (hr:race < rs.length)
  (hg:∀ s a,InvB rs ts (race+1) s a→∀ x∈g s a,Leaf rs ts x):∀ {m left:Nat},m≤n→∀ x∈zbx g (zbi ts race al) sets race n m left,Leaf rs ts x
 | 0,_,_,x,hx=>by cases hx
 | m+1,left,hm,x,hx=>by
  simp only [zbx] at hx
  split at hx
  ·rename_i hb
   rcases List.mem_append.1 hx with hx | hx
   ·refine hg _ _ (z40 h hr (own:=ownB left n (n - (m+1)) (zbi ts race al) n) (i:=n - (m+1)) ?_ fun k hk=>?_) x hx
    ·rw [zg3 _ _ _ _ (Nat.le_refl n),decide_eq_true_eq]
     exact ⟨by omega,by omega,by omega,hb,rfl⟩
    ·rw [zg3 _ _ _ _ (Nat.le_refl n),decide_eq_true_eq] at hk
     exact hk.2.2.2.2
   ·exact zni h hr hg (by omega) x hx
  ·exact zni h hr hg (by omega) x hx
theorem zw0 {al:List Bool} (h:al.all (fun b=>!b)=true) (j:Nat):al.getD j false=false:=by
 rw [List.all_eq_true] at h
 rw [List.getD_eq_getElem?_getD]
 cases hj:al[j]? with
 | none=>rfl
 | some b =>
  have:=h b (List.mem_of_getElem? hj)
  simpa using this
theorem zw1 {rs:List Nat} {ts:List (List Nat)}:∀ {f:Nat},f≤rs.length→∀ {sets:List Nat} {al:List Bool},InvB rs ts (rs.length - f) sets al→∀ x∈cutB rs ts f sets al,Leaf rs ts x
 | 0,_,sets,al,h,x,hx=>by
  simp only [cutB,List.mem_singleton] at hx
  subst hx
  exact zy9 h (by omega) (.inl (by omega))
 | f+1,hf,sets,al,h,x,hx=>by
  simp only [cutB] at hx
  split at hx
  ·rename_i hd
   simp only [List.mem_singleton] at hx
   subst hx
   exact zy9 h (by omega) (.inr fun j _=>zw0 hd j)
  ·refine zni h (by omega) (fun s a hi=>?_) (Nat.le_refl _) x hx
   have e:rs.length - (f+1)+1=rs.length - f:=by omega
   rw [e] at hi
   exact zw1 (by omega) hi
theorem z0p (rs:List Nat) (ts:List (List Nat)):InvB rs ts 0 (allB rs) (List.replicate ts.length true) :=
 ⟨by simp [allB],by simp,fun r h=>by omega,fun j _ _ r h=>by omega,fun j hj h=>by
  rw [List.getD_eq_getElem?_getD,List.getElem?_replicate,if_pos hj] at h
  cases h⟩
theorem zrl {rs:List Nat} {ts:List (List Nat)}:∀ x∈zbd rs ts,Leaf rs ts x :=
 zw1 (Nat.le_refl _) (by rw [Nat.sub_self];exact z0p rs ts)
theorem znj {g:List Nat→List Bool→List Lf} {cls:Nat→List Bool} {sets:List Nat} {race n c:Nat} (hc:c < n):∀ {m left:Nat},m≤n→n - m≤c→left.testBit c=true →
  ∃ own i,own.testBit c=true∧cls c=cls i∧∀ x∈g (sets.set race own) (cls i),x∈zbx g cls sets race n m left
 | 0,_,hm,h1,_=>by omega
 | m+1,left,hm,h1,hb=>by
  simp only [zbx]
  by_cases hi:left.testBit (n - (m+1))=true
  ·rw [if_pos hi]
   by_cases e:cls c=cls (n - (m+1))
   ·refine ⟨_,n - (m+1),?_,e,fun x hx=>List.mem_append.2 (.inl hx)⟩
    rw [zg3 _ _ _ _ (Nat.le_refl n),decide_eq_true_eq]
    exact ⟨by omega,hc,h1,hb,e⟩
   ·have hne:c≠n - (m+1):=fun h=>e (by rw [h])
    obtain ⟨own,i,h2,h3,h4⟩:=znj (g:=g) (cls:=cls) (sets:=sets) (race:=race) hc (m:=m) (left:=zc8 left (ownB left n (n - (m+1)) cls n)) (by omega) (by omega) (by
     rw [zwz,hb,zg3 _ _ _ _ (Nat.le_refl n)]
     simp only [Bool.true_and,Bool.not_eq_true',decide_eq_false_iff_not]
     exact fun h=>e h.2.2.2.2)
    exact ⟨own,i,h2,h3,fun x hx=>List.mem_append.2 (.inr (h4 x hx))⟩
  ·rw [if_neg hi]
   have hne:c≠n - (m+1):=fun h=>hi (by rw [← h];exact hb)
   exact znj hc (by omega) (by omega) hb
theorem zw2 {rs:List Nat} {ts:List (List Nat)} {c:Nat→Nat}:∀ {f:Nat},f≤rs.length→∀ {sets:List Nat} {al:List Bool},sets.length=rs.length→al.length=ts.length →
  (∀ r,rs.length - f≤r→r < rs.length→c r < rs.getD r 0∧(sets.getD r 0).testBit (c r)=true) →
  ∃ x∈cutB rs ts f sets al,(∀ r,r < rs.length - f→x.1.getD r 0=sets.getD r 0)∧(∀ r,rs.length - f≤r→r < rs.length→(x.1.getD r 0).testBit (c r)=true) ∧
   ∀ j,j < ts.length→(x.2.getD j false=true↔al.getD j false=true∧∀ r,rs.length - f≤r→r < rs.length→((ts.getD j []).getD r 0).testBit (c r)=true)
 | 0,_,sets,al,hl,ha,hc=>⟨(sets,al),by simp [cutB],fun _ _=>rfl,fun r h1 h2=>by omega,fun j hj=>⟨fun h=>⟨h,fun r h1 h2=>by omega⟩,fun h=>h.1⟩⟩
 | f+1,hf,sets,al,hl,ha,hc=>by
  simp only [cutB]
  by_cases hd:al.all (fun b=>!b)=true
  ·rw [if_pos hd]
   refine ⟨(sets,al),by simp,fun _ _=>rfl,fun r h1 h2=>(hc r h1 h2).2,fun j hj=>?_⟩
   have:=zw0 hd j
   constructor
   ·intro h
    rw [show ((sets,al):Lf).2=al from rfl,this] at h
    cases h
   ·intro h
    rw [this] at h
    cases h.1
  ·rw [if_neg hd]
   obtain ⟨race,hrace⟩:∃ race,race=rs.length - (f+1):=⟨_,rfl⟩
   rw [← hrace] at hc ⊢
   have hr:race < rs.length:=by omega
   obtain ⟨c1,c2⟩:=hc race (Nat.le_refl _) hr
   obtain ⟨own,i,h2,h3,h4⟩:=znj (g:=cutB rs ts f) (cls:=zbi ts race al) (sets:=sets) (race:=race) c1 (m:=rs.getD race 0) (left:=sets.getD race 0) (Nat.le_refl _) (by omega) c2
   have hls:race < sets.length:=by omega
   have e:rs.length - f=race+1:=by omega
   obtain ⟨x,hx,q1,q2,q3⟩:=zw2 (rs:=rs) (ts:=ts) (c:=c) (f:=f) (by omega) (sets:=sets.set race own) (al:=zbi ts race al i) (by rw [List.length_set];exact hl) (zfr _ _ _ _) (fun r a1 a2=>by
    have:=hc r (by omega) a2
    rw [zeq _ _ _ _ hls,if_neg (by omega)]
    exact this)
   rw [e] at q1 q2 q3
   refine ⟨x,h4 x hx,fun r hlt=>?_,fun r a1 a2=>?_,fun j hj=>?_⟩
   ·rw [q1 r (by omega),zeq _ _ _ _ hls,if_neg (by omega)]
   ·rcases Nat.lt_or_ge race r with a3 | a3
    ·exact q2 r (by omega) a2
    ·have:r=race:=by omega
     subst this
     rw [q1 r (by omega),zeq _ _ _ _ hls,if_pos rfl]
     exact h2
   ·rw [q3 j hj,← h3,zg4 hj,Bool.and_eq_true]
    constructor
    ·rintro ⟨⟨a1,a2⟩,a3⟩
     refine ⟨a1,fun r b1 b2=>?_⟩
     rcases Nat.lt_or_ge race r with b3 | b3
     ·exact a3 r (by omega) b2
     ·have:r=race:=by omega
      subst this
      exact a2
    ·rintro ⟨a1,a2⟩
     exact ⟨⟨a1,a2 race (Nat.le_refl _) hr⟩,fun r b1 b2=>a2 r (by omega) b2⟩
theorem z7k {rs:List Nat} {r k:Nat} (hr:r < rs.length) (hk:k < rs.getD r 0):((allB rs).getD r 0).testBit k=true:=by
 unfold allB
 rw [List.getD_eq_getElem?_getD,List.getElem?_map]
 rw [List.getD_eq_getElem?_getD,List.getElem?_eq_getElem hr] at hk
 rw [List.getElem?_eq_getElem hr]
 simp only [Option.map_some,Option.getD_some] at hk ⊢
 rw [Nat.testBit_two_pow_sub_one]
 simpa using hk
theorem z0q {rs:List Nat} {ts:List (List Nat)} (c:Nat→Nat) (hc:∀ r,r < rs.length→c r < rs.getD r 0) :
  ∃ x∈zbd rs ts,(∀ r,r < rs.length→(x.1.getD r 0).testBit (c r)=true)∧∀ j,j < ts.length→(x.2.getD j false=true↔∀ r,r < rs.length→((ts.getD j []).getD r 0).testBit (c r)=true):=by
 obtain ⟨x,hx,_,q2,q3⟩:=zw2 (rs:=rs) (ts:=ts) (c:=c) (f:=rs.length) (Nat.le_refl _) (sets:=allB rs) (al:=List.replicate ts.length true) (by simp [allB]) (by simp) fun r _ h=>⟨hc r h,z7k h (hc r h)⟩
 refine ⟨x,hx,fun r h=>q2 r (by omega) h,fun j hj=>?_⟩
 rw [q3 j hj]
 constructor
 ·rintro ⟨_,a⟩ r h
  exact a r (by omega) h
 ·intro a
  refine ⟨?_,fun r _ h=>a r h⟩
  rw [List.getD_eq_getElem?_getD,List.getElem?_replicate,if_pos hj]
  rfl
end Go.Proofs.YtkfifbopmpcanaaGreat
namespace Go.Proofs.YtkfifbopmpcanaaGreat
def valB (us:List Int) (al:List Bool):Nat→Int
 | 0=>0
 | m+1=>valB us al m+if al.getD m false=true then us.getD m 0 else 0
def fstB (al:List Bool):Nat→Option Nat
 | 0=>none
 | m+1=>match fstB al m with
  | some i=>some i
  | none=>if al.getD m false=true then some m else none
def zch (ts:List (List Nat)) (us:List Int) (l:List Lf) (i:Nat):Bool :=
 l.any fun x=>decide (fstB x.2 ts.length=some i∧us.getD i 0=valB us x.2 ts.length)
def idleB (ts:List (List Nat)) (us:List Int) (l:List Lf):List Nat:=(List.range ts.length).filter fun i=>!zch ts us l i
theorem z41 {rs:List Nat} {a b:List Nat} (hb:∀ r,r < rs.length→∃ k,k < rs.getD r 0∧(b.getD r 0).testBit k=true) (hbn:∀ r,r < rs.length→∀ k,(b.getD r 0).testBit k=true→k < rs.getD r 0) :
  zch [a,b] [1,1] (zbd rs [a,b]) 1=true↔¬ ∀ r,r < rs.length→sub (b.getD r 0) (a.getD r 0):=by
 unfold zch
 rw [List.any_eq_true]
 constructor
 ·rintro ⟨x,hx,he⟩ hall
  obtain ⟨h1,-⟩:=of_decide_eq_true he
  have hl:=zrl x hx
  have h0:x.2.getD 0 false=false∧x.2.getD 1 false=true:=by
   simp only [fstB,List.length_cons,List.length_nil,Nat.reduceAdd] at h1
   cases e0:x.2.getD 0 false with
   | true=>rw [e0] at h1;simp at h1
   | false =>
    rw [e0] at h1
    cases e1:x.2.getD 1 false with
    | true=>exact ⟨rfl,rfl⟩
    | false=>rw [e1] at h1;simp at h1
  have h2:=(hl.iff_ 1 (by simp)).1 h0.2
  have h3:x.2.getD 0 false=true:=(hl.iff_ 0 (by simp)).2 fun r hr k hk=>hall r hr k (h2 r hr k hk)
  rw [h0.1] at h3
  cases h3
 ·intro hne
  have hex:∃ r k,r < rs.length∧(b.getD r 0).testBit k=true∧(a.getD r 0).testBit k=false:=by
   apply Classical.byContradiction
   intro hn
   refine hne fun r hr k hk=>?_
   cases ha:(a.getD r 0).testBit k with
   | true=>rfl
   | false=>exact absurd ⟨r,k,hr,hk,ha⟩ hn
  obtain ⟨r0,k0,hr0,hb0,ha0⟩:=hex
  have hc:∃ c:Nat→Nat,∀ r,r < rs.length→c r < rs.getD r 0∧(b.getD r 0).testBit (c r)=true∧(r=r0→c r=k0):=by
   have hch:∀ r,∃ k,r < rs.length→k < rs.getD r 0∧(b.getD r 0).testBit k=true∧(r=r0→k=k0):=fun r=>by
    by_cases hr:r < rs.length
    ·by_cases e:r=r0
     ·subst e
      exact ⟨k0,fun _=>⟨hbn r hr k0 hb0,hb0,fun _=>rfl⟩⟩
     ·obtain ⟨k,h1,h2⟩:=hb r hr
      exact ⟨k,fun _=>⟨h1,h2,fun h=>absurd h e⟩⟩
    ·exact ⟨0,fun h=>absurd h hr⟩
   exact ⟨fun r=>Classical.choose (hch r),fun r=>Classical.choose_spec (hch r)⟩
  obtain ⟨c,hc⟩:=hc
  obtain ⟨x,hx,_,hm⟩:=z0q (rs:=rs) (ts:=[a,b]) c fun r hr=>(hc r hr).1
  have e1:x.2.getD 1 false=true:=(hm 1 (by simp)).2 fun r hr=>(hc r hr).2.1
  have e0:x.2.getD 0 false=false:=by
   cases h:x.2.getD 0 false with
   | false=>rfl
   | true =>
    have h4:=(hm 0 (by simp)).1 h r0 hr0
    rw [(hc r0 hr0).2.2 rfl] at h4
    have h5:(a.getD r0 0).testBit k0=true:=h4
    rw [ha0] at h5;cases h5
  refine ⟨x,hx,?_⟩
  rw [decide_eq_true_eq]
  have e0':x.2[0]?.getD false=false:=by rw [← List.getD_eq_getElem?_getD];exact e0
  have e1':x.2[1]?.getD false=true:=by rw [← List.getD_eq_getElem?_getD];exact e1
  simp [fstB,valB,e0',e1']
theorem z8k {rs:List Nat} {a b:List Nat} (hb:∀ r,r < rs.length→∃ k,k < rs.getD r 0∧(b.getD r 0).testBit k=true) (hbn:∀ r,r < rs.length→∀ k,(b.getD r 0).testBit k=true→k < rs.getD r 0) :
  (1∈idleB [a,b] [1,1] (zbd rs [a,b]))↔∀ r,r < rs.length→sub (b.getD r 0) (a.getD r 0):=by
 unfold idleB
 rw [List.mem_filter]
 have h:=z41 (a:=a) hb hbn
 constructor
 ·rintro ⟨-,h1⟩
  simp only [Bool.not_eq_true'] at h1
  apply Classical.byContradiction
  intro hn
  rw [h.2 hn] at h1
  cases h1
 ·intro hall
  refine ⟨by simp,?_⟩
  cases ha:zch [a,b] [1,1] (zbd rs [a,b]) 1 with
  | false=>rfl
  | true=>exact absurd hall (h.1 ha)
theorem sub_land {a b:Nat}:a &&& b=b↔sub b a:=by
 constructor
 ·intro h k hk
  rw [← h,Nat.testBit_and,Bool.and_eq_true] at hk
  exact hk.1
 ·intro h
  apply Nat.eq_of_testBit_eq
  intro k
  rw [Nat.testBit_and]
  cases hb:b.testBit k with
  | false=>simp
  | true=>rw [h k hb];rfl
end Go.Proofs.YtkfifbopmpcanaaGreat
namespace Go.Proofs.YtkfifbopmpcanaaGreat
def zci (p:Nat→Bool):Nat→Nat
 | 0=>0
 | k+1=>zci p k+if p k=true then 2 ^ k else 0
theorem zoj (p:Nat→Bool):∀ k,zci p k < 2 ^ k
 | 0=>by simp [zci]
 | k+1=>by
  have h:=zoj p k
  unfold zci
  rw [Nat.pow_succ]
  split<;>omega
theorem zfs (p:Nat→Bool):∀ k r,(zci p k).testBit r=(decide (r < k) && p r)
 | 0,r=>by simp [zci]
 | k+1,r=>by
  have h:=zfs p k r
  have hl:=zoj p k
  unfold zci
  by_cases hp:p k=true
  ·rw [if_pos hp,Nat.add_comm]
   by_cases e:r=k
   ·subst e
    rw [Nat.testBit_two_pow_add_eq,h]
    simp [hp]
   ·rcases Nat.lt_or_ge r k with h1 | h1
    ·rw [Nat.testBit_two_pow_add_gt h1,h]
     simp [h1,show r < k+1 by omega]
    ·have h2:2 ^ k+zci p k < 2 ^ r:=by
      have h3:2 ^ (k+1)≤2 ^ r:=Nat.pow_le_pow_right (by omega) (by omega)
      rw [Nat.pow_succ] at h3
      omega
     rw [Nat.testBit_lt_two_pow h2]
     simp [show ¬ r < k+1 by omega]
  ·rw [if_neg hp,Nat.add_zero,h]
   by_cases e:r=k
   ·subst e
    simp [hp]
   ·have:decide (r < k+1)=decide (r < k):=by rw [decide_eq_decide];omega
    rw [this]
theorem z42 {p:Nat→Bool} {k r:Nat} (hr:r < k) (hp:p r=true):0 < zci p k:=by
 rcases Nat.eq_zero_or_pos (zci p k) with h | h
 ·have:=zfs p k r
  rw [h,hp,decide_eq_true hr] at this
  simp at this
 ·exact h
def zfd (s:Nat):Nat→Nat
 | 0=>0
 | k+1=>zfd s k+if s.testBit k=true then 1 else 0
theorem z43 {s k r:Nat} (hr:r < k) (h:s.testBit r=true):0 < zfd s k:=by
 induction k with
 | zero=>omega
 | succ k ih =>
  unfold zfd
  by_cases e:r=k
  ·subst e
   rw [if_pos h];omega
  ·have:=ih (by omega)
   omega
end Go.Proofs.YtkfifbopmpcanaaGreat
namespace Go.Proofs.YtkfifbopmpcanaaGreat
theorem ztn {f:List Int} {q:Nat→Bool}:∀ {n:Nat},(∃ i,i < n∧q i=true)→∃ i,i < n∧q i=true∧∀ j,j < n→q j=true→pl f i≤pl f j
 | 0,⟨i,h,_⟩=>absurd h (by omega)
 | n+1,⟨i,hi,hq⟩=>by
  by_cases hex:∃ i,i < n∧q i=true
  ·obtain ⟨k,k1,k2,k3⟩:=ztn (f:=f) hex
   by_cases hn:q n=true∧pl f n < pl f k
   ·refine ⟨n,by omega,hn.1,fun j hj hqj=>?_⟩
    rcases Nat.lt_or_ge j n with h | h
    ·have:=k3 j h hqj;omega
    ·have:j=n:=by omega
     subst this;omega
   ·refine ⟨k,by omega,k2,fun j hj hqj=>?_⟩
    rcases Nat.lt_or_ge j n with h | h
    ·exact k3 j h hqj
    ·have:j=n:=by omega
     subst this
     rcases Int.lt_or_le (pl f j) (pl f k) with h | h
     ·exact absurd ⟨hqj,h⟩ hn
     ·exact h
  ·have:i=n:=by
    rcases Nat.lt_or_ge i n with h | h
    ·exact absurd ⟨i,h,hq⟩ hex
    ·omega
   subst this
   refine ⟨i,by omega,hq,fun j hj hqj=>?_⟩
   rcases Nat.lt_or_ge j i with h | h
   ·exact absurd ⟨j,h,hqj⟩ hex
   ·have:j=i:=by omega
    subst this;omega
theorem z29 {f:List Int} {n:Nat} (hn:0 < n) (hf:zay n f=true):∃ i,i < n∧pl f i=1:=by
 obtain ⟨i,h1,_,h3⟩:=ztn (f:=f) (q:=fun _=>true) ⟨0,hn,rfl⟩
 have h4:=zpn hf h1
 have h5:below f (pl f i) n=0:=by
  unfold below
  rw [List.countP_eq_zero]
  intro j hj
  have:=h3 j (List.mem_range.1 hj) rfl
  simp;omega
 exact ⟨i,h1,by rw [h5] at h4;omega⟩
section
variable {h:Rc} {f:List Int} (hf:f∈agrL h)
include hf
theorem z44:zbc h=0:=by
 unfold zbc
 rw [if_neg]
 intro e
 rw [List.eq_nil_of_length_eq_zero e] at hf
 cases hf
theorem zx2 {q:List Int→Bool} (hk:zf0 h q=0):q f=false:=by
 unfold zf0 at hk
 rw [if_pos (z44 hf)] at hk
 exact z0g hk hf
end
theorem z45 {h:Rc} {f:List Int} (hc:zfc h f=0):f∈agrL h:=by
 unfold zfc at hc
 split at hc
 ·rename_i h1
  exact absurd hc h1
 rename_i h1
 split at hc
 ·cases hc
 split at hc
 ·rename_i h2
  split at hc
  ·rename_i h3
   exact mem_agr.2 ⟨h2,h3⟩
  ·cases hc
 ·cases hc
def canJ (h:Rc) (r:Nat):Bool:=zf0 h (fun f=>decide (pl f r≤1)) != 0
def zeh (h:Rc) (n:Nat):Nat:=zci (canJ h) n
theorem zza {h:Rc} {f:List Int} (hf:f∈agrL h) {r:Nat} (h1:pl f r=1):canJ h r=true:=by
 unfold canJ
 cases hk:(zf0 h (fun f=>decide (pl f r≤1)) != 0) with
 | true=>rfl
 | false =>
  have h2:zf0 h (fun f=>decide (pl f r≤1))=0:=by simpa using hk
  have h3:=zx2 hf h2
  simp [h1] at h3
theorem znk {h:Rc} {n:Nat} (hn:h.n=n) (hn2:0 < n) (ha:zbc h=0):∃ r,r < n∧(zeh h n).testBit r=true:=by
 have hne:(agrL h)≠[]:=by
  intro e
  unfold zbc at ha
  rw [e] at ha
  simp at ha
 obtain ⟨f,hf⟩:=List.exists_mem_of_ne_nil _ hne
 have hfin:=(mem_agr.1 hf).1
 rw [show h.n.toNat=n by omega] at hfin
 obtain ⟨i,hi,h1⟩:=z29 hn2 hfin
 refine ⟨i,hi,?_⟩
 unfold zeh
 rw [zfs,decide_eq_true hi,zza hf h1]
 rfl
theorem z46 (h:Rc) (n:Nat):zeh h n < 2 ^ n:=zoj _ _
theorem z3a {h:Rc} {n r:Nat} (hr:(zeh h n).testBit r=true):r < n:=by
 unfold zeh at hr
 rw [zfs,Bool.and_eq_true,decide_eq_true_eq] at hr
 exact hr.1
theorem z3b {h:Rc} {n r:Nat} (hr:r < n) (hc:canJ h r=true):(zeh h n).testBit r=true:=by
 unfold zeh
 rw [zfs,decide_eq_true hr,hc]
 rfl
def ownJ (s:Int) (n:Nat):Nat:=1+s.toNat % (2 ^ n - 1)
theorem zw3 {n:Nat} (s:Int) (hn:1≤n):1≤ownJ s n∧ownJ s n≤2 ^ n - 1:=by
 have h2:2 ^ 1≤2 ^ n:=Nat.pow_le_pow_right (by omega) hn
 have h3:=Nat.mod_lt s.toNat (show 0 < 2 ^ n - 1 by omega)
 unfold ownJ
 omega
theorem zw4 {s:Int} {n:Nat} (hs:0≤s) (_:1≤n):1+s.tmod (((2 ^ n - 1:Nat)):Int)=(ownJ s n:Int):=by
 obtain ⟨k,rfl⟩:∃ k:Nat,s=k:=⟨s.toNat,by omega⟩
 unfold ownJ
 rw [← Int.ofNat_tmod]
 simp
theorem z0r (h:Rc) (r:Nat):zci (canJ h) (r+1)=zci (canJ h) r+if canJ h r=true then 2 ^ r else 0:=rfl
end Go.Proofs.YtkfifbopmpcanaaGreat
namespace Go.Proofs.YtkfifbopmpcanaaGreat
open Go.RowKit
structure Tk where
 s:List Nat
 u:Int
def natL (l:List Nat):List Int:=l.map fun (n:Nat)=>(n:Int)
theorem zaq (l:List Nat):(natL l).length=l.length:=by simp [natL]
def zlv (x:Value × Tk):List Value:=[x.1,.int .i64 x.2.u]
structure IsTks (w:World) (v:Value) (ps:List (Value × Tk)):Prop where
 rows:IsRows w 2 v (ps.map zlv)
 sets:∀ x∈ps,IsInts w .i64 x.1 (natL x.2.s)
theorem IsTks.ext {w w':World} (e:Ext w w') {v:Value} {ps:List (Value × Tk)} (h:IsTks w v ps):IsTks w' v ps:=⟨IsRows.ext e h.rows,fun x hx=>(h.sets x hx).ext e⟩
theorem IsTks.spec {w:World} {v:Value} {ps:List (Value × Tk)} (h:IsTks w v ps) :
  ∃ sa cap,v = .slice sa ps.length cap∧ps.length≤cap∧cap≤9223372036854775807∧(ps=[]∨∃ b off,sa=some ⟨b,off,none⟩∧∀ i,(h:i < ps.length) →
   w.cell? ⟨b,off+i * 2,none⟩=some ps[i].1∧w.cell? ⟨b,off+i * 2+1,none⟩=some (.int .i64 ps[i].2.u)):=by
 obtain ⟨sa,cap,h1,h2,h3,h4⟩:=h.rows
 refine ⟨sa,cap,by simpa using h1,by simpa using h2,h3,?_⟩
 rcases h4 with h4 | ⟨b,off,e,h4⟩
 ·exact .inl (by simpa using h4)
 ·refine .inr ⟨b,off,e,fun i hi=>?_⟩
  have c0:=h4 i (by simpa using hi) 0 (by simp [zlv])
  have c1:=h4 i (by simpa using hi) 1 (by simp [zlv])
  simp [zlv] at c0 c1
  exact ⟨c0,c1⟩
def zj (ps:List (Value × Tk)):List Tk:=ps.map (·.2)
def zal (ts:List Tk):List (List Nat):=ts.map (·.s)
def zar (ts:List Tk):List Int:=ts.map (·.u)
structure CardV (rs:List Nat):Prop where
 lo:1≤rs.length
 hi:rs.length≤5
 each:∀ r,r < rs.length→1≤rs.getD r 0∧rs.getD r 0≤6
structure TksV (rs:List Nat) (ts:List Tk):Prop where
 hi:ts.length≤10
 len:∀ t∈ts,t.s.length=rs.length
 each:∀ t∈ts,∀ r,r < rs.length→1≤t.s.getD r 0∧t.s.getD r 0≤2 ^ rs.getD r 0 - 1
 u:∀ t∈ts,1≤t.u∧t.u≤1000
theorem zok {l:List Nat} {i:Nat} (h:i < l.length):(natL l)[i]'(by rw [zaq];exact h)=(l.getD i 0:Int):=by
 simp only [natL,List.getElem_map]
 rw [List.getD_eq_getElem?_getD,List.getElem?_eq_getElem h]
 rfl
theorem zcn {w:World} {sa:Option Addr} {n cap:Nat} {l:List Nat} (h:IsInts w .i64 (.slice sa n cap) (natL l)) {i:Nat} (hi:i < l.length):∃ sb off,sa=some ⟨sb,off,none⟩∧∀ i,i < l.length→∀ W,Ext w W→W.cell? ⟨sb,off+i,none⟩=some (.int .i64 (l.getD i 0:Int)):=by
 obtain ⟨_,_,e0,-,-,hc⟩:=h.spec
 cases e0
 rcases hc with h0 | ⟨sb,off,rfl,hc⟩
 ·have:(natL l).length=0:=by rw [h0];rfl
  rw [zaq] at this
  omega
 ·refine ⟨sb,off,rfl,fun i hi W e=>?_⟩
  have c0:=zh e (hc i (by rw [zaq];exact hi))
  rw [zok hi] at c0
  exact c0
structure SheetAt (w:World) (p:Nat) (rv tv:Value):Prop where
 c0:w.cell? ⟨p,0,none⟩=some rv
 c1:w.cell? ⟨p,1,none⟩=some tv
theorem SheetAt.ext {w w':World} (h:Ext w w') {p:Nat} {rv tv:Value} (k:SheetAt w p rv tv):SheetAt w' p rv tv:=⟨zh h k.c0,zh h k.c1⟩
theorem SheetAt.lt {w:World} {p:Nat} {rv tv:Value} (k:SheetAt w p rv tv):p < w.heap.size:=World.block_lt_of_cell? _ _ k.c0
theorem z0s (n:Nat) (_:n≤4294967295):bits .and .i64 (n:Int) 1=((n % 2:Nat):Int):=by
 have e:(BitVec.ofInt IntKind.i64.bits (n:Int) &&& BitVec.ofInt IntKind.i64.bits 1).toNat=n % 2:=by
  show (BitVec.ofInt 64 (n:Int) &&& BitVec.ofInt 64 1).toNat=n % 2
  simp [BitVec.toNat_and]
 unfold bits
 simp only
 rw [e,IntWalk.i64_in _ (by omega)]
theorem zgc (f s:Nat) (h1:f≤4294967295) (h2:s≤4294967295):bits .and .i64 (f:Int) (s:Int)=((f &&& s:Nat):Int):=by
 have h3:f &&& s≤f:=Nat.and_le_left
 have e:(BitVec.ofInt IntKind.i64.bits (f:Int) &&& BitVec.ofInt IntKind.i64.bits (s:Int)).toNat=f &&& s:=by
  show (BitVec.ofInt 64 (f:Int) &&& BitVec.ofInt 64 (s:Int)).toNat=f &&& s
  rw [BitVec.toNat_and,BitVec.ofInt_natCast,BitVec.ofInt_natCast,BitVec.toNat_ofNat,BitVec.toNat_ofNat,Nat.mod_eq_of_lt (by omega),Nat.mod_eq_of_lt (by omega)]
 unfold bits
 simp only
 rw [e,IntWalk.i64_in _ (by omega)]
theorem zpo (n k:Nat):(n:Int) / 2 ^ k=((n >>> k:Nat):Int):=by
 rw [Nat.shiftRight_eq_div_pow];simp
theorem zto (n k:Nat):((n >>> k) % 2=1)↔n.testBit k=true:=by
 simp [Nat.testBit]
theorem z47 (f s:Nat) (h1:f≤4294967295) (h2:s≤4294967295):bits .or .i64 (f:Int) (s:Int)=((f ||| s:Nat):Int):=by
 have h3:f ||| s < 2 ^ 32:=Nat.or_lt_two_pow (by omega) (by omega)
 have e:(BitVec.ofInt IntKind.i64.bits (f:Int) ||| BitVec.ofInt IntKind.i64.bits (s:Int)).toNat=f ||| s:=by
  show (BitVec.ofInt 64 (f:Int) ||| BitVec.ofInt 64 (s:Int)).toNat=f ||| s
  rw [BitVec.toNat_or,BitVec.ofInt_natCast,BitVec.ofInt_natCast,BitVec.toNat_ofNat,BitVec.toNat_ofNat,Nat.mod_eq_of_lt (by omega),Nat.mod_eq_of_lt (by omega)]
 unfold bits
 simp only
 rw [e,IntWalk.i64_in _ (by omega)]
end Go.Proofs.YtkfifbopmpcanaaGreat
namespace Go.Proofs.YtkfifbopmpcanaaGreat
open Go.RowKit Go.Shelf
def mkI (al:List Bool) (j:Nat):Int:=if al.getD j false=true then 1 else 0
def PlAt (T:TypeId) (W:World) (g:Nat) (race:Int) (f:Nat→Int):Prop :=
 ∃ cur:Array Value,W.heap[g]? = some (.cells cur T (0,0))∧cur.size=11∧cur[0]? = some (.int .i64 race)∧∀ j,j < 10→cur[1+j]? = some (.int .i64 (f j))
section
variable {T:TypeId} {W:World} {g:Nat} {race:Int} {f:Nat→Int} (h:PlAt T W g race f)
include h
theorem PlAt.c0:W.cell? ⟨g,0,none⟩=some (.int .i64 race):=by
 obtain ⟨cur,h1,_,h2,_⟩:=h
 rw [cell_of_row _ _ _ _ _ _ h1];exact h2
theorem PlAt.cell (j:Nat) (hj:j < 10):W.cell? ⟨g,1+j,none⟩=some (.int .i64 (f j)):=by
 obtain ⟨cur,h1,_,_,h2⟩:=h
 rw [cell_of_row _ _ _ _ _ _ h1];exact h2 j hj
theorem PlAt.free (o:Nat):W.frozen? ⟨g,o,none⟩=false:=by
 obtain ⟨cur,h1,_⟩:=h
 simp [World.frozen?,h1]
theorem PlAt.lt:g < W.heap.size:=by
 obtain ⟨cur,h1,_⟩:=h
 exact (Array.getElem?_eq_some_iff.1 h1).1
theorem PlAt.of_heap {W':World} (e:W'.heap[g]? = W.heap[g]?):PlAt T W' g race f:=by
 obtain ⟨cur,h1,h2⟩:=h
 exact ⟨cur,e.trans h1,h2⟩
theorem PlAt.ext {W':World} (e:Ext W W'):PlAt T W' g race f:=h.of_heap (e.block _ h.lt)
theorem PlAt.set (i:Nat) (hi:i < 10) (x:Int):PlAt T (W.setCell ⟨g,1+i,none⟩ (.int .i64 x)) g race (fun j=>if j=i then x else f j):=by
 obtain ⟨cur,h1,hn,h0,h2⟩:=h
 refine ⟨_,zab h1 (1+i) _,by simpa using hn,?_,fun j hj=>?_⟩
 ·rw [Array.getElem?_setIfInBounds,if_neg (by omega),h0]
 ·rw [Array.getElem?_setIfInBounds]
  by_cases e:j=i
  ·subst e
   rw [if_pos rfl,if_pos (by omega)]
   simp
  ·rw [if_neg (by omega),h2 j hj]
   simp [e]
theorem PlAt.congr {f':Nat→Int} (e:∀ j,j < 10→f j=f' j):PlAt T W g race f':=by
 obtain ⟨cur,h1,h2,h3,h4⟩:=h
 exact ⟨cur,h1,h2,h3,fun j hj=>by rw [h4 j hj,e j hj]⟩
end
def zbp (race:Int) (f:Nat→Int):Array Value:=#[.int .i64 race,.int .i64 (f 0),.int .i64 (f 1),.int .i64 (f 2),.int .i64 (f 3),.int .i64 (f 4),.int .i64 (f 5),.int .i64 (f 6),.int .i64 (f 7),.int .i64 (f 8),.int .i64 (f 9)]
def z8l (f:Nat→Int):Array Value:=#[.int .i64 (f 0),.int .i64 (f 1),.int .i64 (f 2),.int .i64 (f 3),.int .i64 (f 4),.int .i64 (f 5),.int .i64 (f 6),.int .i64 (f 7),.int .i64 (f 8),.int .i64 (f 9)]
theorem zdx (T:TypeId) (w:World) (race:Int) (f:Nat→Int):PlAt T (w.alloc (.cells (zbp race f) T)) w.heap.size race f:=by
 refine ⟨_,World.alloc_heap_new w _,rfl,rfl,fun j hj=>?_⟩
 match j,hj with
 | 0,_=>rfl
 | 1,_=>rfl
 | 2,_=>rfl
 | 3,_=>rfl
 | 4,_=>rfl
 | 5,_=>rfl
 | 6,_=>rfl
 | 7,_=>rfl
 | 8,_=>rfl
 | 9,_=>rfl
theorem z48 {al bl:List Bool} {n:Nat} (ha:al.length=n) (hb:bl.length=n) (hn:n≤10):(∀ j,j < 10→mkI al j=mkI bl j)↔al=bl:=by
 constructor
 ·intro h
  apply List.ext_getElem (by omega)
  intro i h1 h2
  have:=h i (by omega)
  unfold mkI at this
  rw [List.getD_eq_getElem?_getD,List.getD_eq_getElem?_getD,List.getElem?_eq_getElem h1,List.getElem?_eq_getElem h2] at this
  simp only [Option.getD_some] at this
  cases hx:al[i]<;>cases hy:bl[i]<;>rw [hx,hy] at this<;>simp at this ⊢
 ·intro e j _
  rw [e]
theorem z0t {al:List Bool} {n:Nat} (ha:al.length=n) (hn:n≤10):(∀ j,j < 10→mkI al j=0)↔al.all (fun b=>!b)=true:=by
 rw [List.all_eq_true]
 constructor
 ·intro h b hb
  obtain ⟨i,hi,e⟩:=List.mem_iff_getElem.1 hb
  have:=h i (by omega)
  unfold mkI at this
  rw [List.getD_eq_getElem?_getD,List.getElem?_eq_getElem hi] at this
  simp only [Option.getD_some,e] at this
  cases b
  ·rfl
  ·simp at this
 ·intro h j _
  unfold mkI
  rw [List.getD_eq_getElem?_getD]
  cases hj:al[j]? with
  | none=>simp
  | some b =>
   have:=h b (List.mem_of_getElem? hj)
   simp at this
   simp [this]
theorem z0u (f s:Nat) (h1:f≤4294967295) (_:s≤4294967295):bits .andNot .i64 (f:Int) (s:Int)=((zc8 f s:Nat):Int):=by
 have h3:zc8 f s < 2 ^ 32:=by
  unfold zc8
  exact Nat.xor_lt_two_pow (by omega) (Nat.lt_of_le_of_lt Nat.and_le_left (by omega))
 have e:(BitVec.ofInt IntKind.i64.bits (f:Int) &&& ~~~BitVec.ofInt IntKind.i64.bits (s:Int)).toNat=zc8 f s:=by
  show (BitVec.ofInt 64 (f:Int) &&& ~~~BitVec.ofInt 64 (s:Int)).toNat=zc8 f s
  rw [BitVec.ofInt_natCast,BitVec.ofInt_natCast]
  apply Nat.eq_of_testBit_eq
  intro i
  rw [zwz,BitVec.testBit_toNat,BitVec.getLsbD_and,BitVec.getLsbD_not,BitVec.getLsbD_ofNat,BitVec.getLsbD_ofNat]
  by_cases hi:i < 64
  ·simp [hi]
  ·have hf:f.testBit i=false:=Nat.testBit_lt_two_pow (Nat.lt_of_lt_of_le (show f < 2 ^ 64 by omega) (Nat.pow_le_pow_right (by omega) (by omega)))
   simp [hi,hf]
 unfold bits
 simp only
 rw [e,IntWalk.i64_in _ (by omega)]
theorem z0v (al:List Bool) (j x:Nat) (hx:x≤4294967295):bits .and .i64 (mkI al j) (x:Int)=if al.getD j false=true∧x % 2=1 then 1 else 0:=by
 unfold mkI
 by_cases ha:al.getD j false=true
 ·rw [if_pos ha]
  have h:=zgc 1 x (by omega) hx
  rw [Nat.one_and_eq_mod_two] at h
  have h':bits .and .i64 1 (x:Int)=((x % 2:Nat):Int):=h
  rw [h']
  by_cases h2:x % 2=1
  ·rw [if_pos ⟨ha,h2⟩,h2];rfl
  ·rw [if_neg (fun h=>h2 h.2),show x % 2=0 by omega];rfl
 ·rw [if_neg ha]
  have h:=zgc 0 x (by omega) hx
  rw [Nat.zero_and] at h
  have h':bits .and .i64 0 (x:Int)=0:=h
  rw [h',if_neg (fun h=>ha h.1)]
theorem z3c {ts:List (List Nat)} {race:Nat} {al:List Bool} {i j:Nat} (hj:j < ts.length) (hs:(ts.getD j []).getD race 0≤4294967295):bits .and .i64 (mkI al j) ((((ts.getD j []).getD race 0) >>> i:Nat):Int)=mkI (zbi ts race al i) j:=by
 have hb:((ts.getD j []).getD race 0) >>> i≤4294967295:=by
  rw [Nat.shiftRight_eq_div_pow]
  exact Nat.le_trans (Nat.div_le_self _ _) hs
 rw [z0v _ _ _ hb]
 unfold mkI
 rw [zg4 hj]
 have hbt:=zto ((ts.getD j []).getD race 0) i
 cases ha:al.getD j false<;>cases hx:((ts.getD j []).getD race 0).testBit i<;>rw [hx] at hbt<;>simp at hbt ⊢<;>omega
set_option maxRecDepth 100000 in
set_option maxHeartbeats 8000000 in
theorem znl (T:TypeId) (hu:∀ w,(underlying T).run Tryz.prog w = .ok (.array 10 3) w) (f g:Nat→Int) (n:Nat) (w:World) :
  (Op.equalIn (n+2) T (.agg #[.int .i64 (f 0),.int .i64 (f 1),.int .i64 (f 2),.int .i64 (f 3),.int .i64 (f 4),.int .i64 (f 5),.int .i64 (f 6),.int .i64 (f 7),.int .i64 (f 8),.int .i64 (f 9)]) (.agg #[.int .i64 (g 0),.int .i64 (g 1),.int .i64 (g 2),.int .i64 (g 3),.int .i64 (g 4),.int .i64 (g 5),.int .i64 (g 6),.int .i64 (g 7),.int .i64 (g 8),.int .i64 (g 9)])).run Tryz.prog w =
   .ok (f 0 == g 0 && (f 1 == g 1 && (f 2 == g 2 && (f 3 == g 3 && (f 4 == g 4 && (f 5 == g 5 && (f 6 == g 6 && (f 7 == g 7 && (f 8 == g 8 && f 9 == g 9))))))))) w:=by
 have hi:∀ x y:Int,∀ w,(Op.equalIn (n+1) 3 (.int .i64 x) (.int .i64 y)).run Tryz.prog w = .ok (x == y) w:=fun x y w=>run_equalIn_int w n 3 .i64 .i64 x y (by kernel_rfl)
 rw [Op.equalIn]
 simp only [Sem.run_bind,hu,Result.andThen_ok]
 have hr:List.range' 0 10=[0,1,2,3,4,5,6,7,8,9]:=rfl
 by_cases e0:f 0=g 0
 ·by_cases e1:f 1=g 1
  ·by_cases e2:f 2=g 2
   ·by_cases e3:f 3=g 3
    ·by_cases e4:f 4=g 4
     ·by_cases e5:f 5=g 5
      ·by_cases e6:f 6=g 6
       ·by_cases e7:f 7=g 7
        ·by_cases e8:f 8=g 8
         ·by_cases e9:f 9=g 9<;>simp [go_sem,hi,e0,e1,e2,e3,e4,e5,e6,e7,e8,e9,hr]
         ·simp [go_sem,hi,e0,e1,e2,e3,e4,e5,e6,e7,e8,hr]
        ·simp [go_sem,hi,e0,e1,e2,e3,e4,e5,e6,e7,hr]
       ·simp [go_sem,hi,e0,e1,e2,e3,e4,e5,e6,hr]
      ·simp [go_sem,hi,e0,e1,e2,e3,e4,e5,hr]
     ·simp [go_sem,hi,e0,e1,e2,e3,e4,hr]
    ·simp [go_sem,hi,e0,e1,e2,e3,hr]
   ·simp [go_sem,hi,e0,e1,e2,hr]
  ·simp [go_sem,hi,e0,e1,hr]
 ·simp [go_sem,hi,e0,hr]
def zlw (f g:Nat→Int):Bool:=f 0 == g 0 && (f 1 == g 1 && (f 2 == g 2 && (f 3 == g 3 && (f 4 == g 4 && (f 5 == g 5 && (f 6 == g 6 && (f 7 == g 7 && (f 8 == g 8 && f 9 == g 9))))))))
theorem ztp {f g:Nat→Int}:zlw f g=true↔∀ j,j < 10→f j=g j:=by
 unfold zlw
 simp only [Bool.and_eq_true,beq_iff_eq]
 constructor
 ·rintro ⟨h0,h1,h2,h3,h4,h5,h6,h7,h8,h9⟩ j hj
  match j,hj with
  | 0,_=>exact h0
  | 1,_=>exact h1
  | 2,_=>exact h2
  | 3,_=>exact h3
  | 4,_=>exact h4
  | 5,_=>exact h5
  | 6,_=>exact h6
  | 7,_=>exact h7
  | 8,_=>exact h8
  | 9,_=>exact h9
 ·intro h
  exact ⟨h 0 (by omega),h 1 (by omega),h 2 (by omega),h 3 (by omega),h 4 (by omega),h 5 (by omega),h 6 (by omega),h 7 (by omega),h 8 (by omega),h 9 (by omega)⟩
theorem z0w {al bl:List Bool} {n:Nat} (ha:al.length=n) (hb:bl.length=n) (hn:n≤10):zlw (mkI al) (mkI bl)=decide (al=bl):=by
 rw [Bool.eq_iff_iff,ztp,z48 ha hb hn,decide_eq_true_eq]
theorem zrm {al:List Bool} {n:Nat} (ha:al.length=n) (hn:n≤10):zlw (mkI al) (fun _=>0)=al.all (fun b=>!b):=by
 rw [Bool.eq_iff_iff,ztp]
 exact z0t ha hn
def MkAt (T:TypeId) (W:World) (g:Nat) (f:Nat→Int):Prop :=
 ∃ cur:Array Value,W.heap[g]? = some (.cells cur T (0,0))∧cur.size=10∧∀ j,j < 10→cur[j]? = some (.int .i64 (f j))
section
variable {T:TypeId} {W:World} {g:Nat} {f:Nat→Int} (h:MkAt T W g f)
include h
theorem MkAt.cell (j:Nat) (hj:j < 10):W.cell? ⟨g,j,none⟩=some (.int .i64 (f j)):=by
 obtain ⟨cur,h1,_,h2⟩:=h
 rw [cell_of_row _ _ _ _ _ _ h1];exact h2 j hj
theorem MkAt.lt:g < W.heap.size:=by
 obtain ⟨cur,h1,_⟩:=h
 exact (Array.getElem?_eq_some_iff.1 h1).1
theorem MkAt.ext {W':World} (e:Ext W W'):MkAt T W' g f:=by
 obtain ⟨cur,h1,h2⟩:=id h
 exact ⟨cur,(e.block _ h.lt).trans h1,h2⟩
end
theorem z3d (T:TypeId) (w:World) (f:Nat→Int):MkAt T (w.alloc (.cells (z8l f) T)) w.heap.size f:=by
 refine ⟨_,World.alloc_heap_new w _,rfl,fun j hj=>?_⟩
 match j,hj with
 | 0,_=>rfl
 | 1,_=>rfl
 | 2,_=>rfl
 | 3,_=>rfl
 | 4,_=>rfl
 | 5,_=>rfl
 | 6,_=>rfl
 | 7,_=>rfl
 | 8,_=>rfl
 | 9,_=>rfl
end Go.Proofs.YtkfifbopmpcanaaGreat
namespace Go.Proofs.YtkfifbopmpcanaaGreat
open Go.RowKit
set_option maxHeartbeats 400000 in
theorem zx3 (l:List (Value × Tk)) (sa:Option Addr) (cap:Nat) (f:Nat) (cs:Array Value) (p:(Value × Tk)→Bool) (w:World)
  (hl:l.length≤9223372036854775807)
  (hs:l=[]∨∃ b off,sa=some ⟨b,off,none⟩∧∀ i,(h:i < l.length)→w.cell? ⟨b,off+i * 2,none⟩=some (l[i].1)∧w.cell? ⟨b,off+i * 2+1,none⟩=some (.int .i64 l[i].2.u))
  (hcall:∀ args W,(callFunc f args).run Tryz.prog W = .ok (.enter f args) W)
  (hf:∀ x,x∈l→∀ W,Ext w W→Calls Tryz.prog f (#[.agg #[x.1,.int .i64 x.2.u]] ++ cs) W fun e W'=>e = .returned (.bool (p x))∧Ext W W') :
  Calls Tryz.prog 209 #[.slice sa l.length cap,.func (.func f) #[] cs] w fun e w'=>e = .returned (.int .i64 (fidx p l))∧Ext w w':=by
 have Hf:=Lib.hid hf
 clear hf
 go_enter Tryz.func209,Tryz.ntmps209
 go_wp2
 go_loopw [8] (fun i W=>∃ k:Nat,k≤l.length∧i = .int .i64 k∧(∀ x∈l.take k,p x=false)∧Ext w W) (fun i _=>l.length - (intOf i).toNat)
 case atStart=>exact ⟨0,Nat.zero_le _,rfl,by simp,Below.refl _ _⟩
 case round =>
  obtain ⟨k,hk,rfl,hno,hb⟩:=hrel
  have HN:=Lib.hid hno
  clear hno
  by_cases hlt:k < l.length
  ·have hs':∃ b off,sa=some ⟨b,off,none⟩∧∀ i,(h:i < l.length)→w.cell? ⟨b,off+i * 2,none⟩=some (l[i].1)∧w.cell? ⟨b,off+i * 2+1,none⟩=some (.int .i64 l[i].2.u):=by
    rcases hs with rfl | h
    ·simp at hlt
    ·exact h
   clear hs
   obtain ⟨b,off,rfl,hc⟩:=hs'
   have hc1:=hc k hlt
   have HC:Hid (∀ i,(h:i < l.length)→w.cell? ⟨b,off+i * 2,none⟩=some (l[i].1)∧w.cell? ⟨b,off+i * 2+1,none⟩=some (.int .i64 l[i].2.u)):=Lib.hid hc
   clear hc
   obtain ⟨a0,a1⟩:=hc1
   have c0:=zh hb a0
   have c1:=zh hb a1
   clear a0 a1
   go_wp2_with fail
   refine (Hf.out l[k] (List.getElem_mem hlt) _ hb).mono ?_
   rintro e W' ⟨rfl,hb'⟩
   cases hp:p l[k]
   ·go_wp2
    go_roundw
    case rel=>exact ⟨k+1,by omega,by go_num,zll hlt HN.out hp,hb.trans' hb'⟩
    case measure=>simp [intOf];omega
   ·go_wp2
    go_ret
    exact ⟨zau (zoc hlt HN.out hp).symm,hb.trans' hb'⟩
  ·go_wp2
   go_ret
   exact ⟨zau (zhy (zlm hlt HN.out)).symm,hb⟩
set_option maxHeartbeats 400000 in
theorem zft (l:List (Value × Tk)) (sa:Option Addr) (cap:Nat) (f:Nat) (cs:Array Value) (p:(Value × Tk)→Bool) (w:World)
  (hl:l.length≤9223372036854775807)
  (hs:l=[]∨∃ b off,sa=some ⟨b,off,none⟩∧∀ i,(h:i < l.length)→w.cell? ⟨b,off+i * 2,none⟩=some (l[i].1)∧w.cell? ⟨b,off+i * 2+1,none⟩=some (.int .i64 l[i].2.u))
  (hcall:∀ args W,(callFunc f args).run Tryz.prog W = .ok (.enter f args) W)
  (hf:∀ x,x∈l→∀ W,Ext w W→Calls Tryz.prog f (#[.agg #[x.1,.int .i64 x.2.u]] ++ cs) W fun e W'=>e = .returned (.bool (p x))∧Ext W W') :
  Calls Tryz.prog 146 #[.slice sa l.length cap,.func (.func f) #[] cs] w fun e w'=>e = .returned (.bool (l.any p))∧Ext w w':=by
 have H:=Lib.hid (zx3 l sa cap f cs p w hl hs hcall hf)
 clear hf hs hcall
 go_enter Tryz.func146,Tryz.ntmps146
 go_wp2_with fail
 refine H.out.mono ?_
 rintro e W' ⟨rfl,hb⟩
 go_wp2
 all_goals
  go_ret
  refine ⟨zan ?_,hb⟩
  rw [← zlk]
end Go.Proofs.YtkfifbopmpcanaaGreat
namespace Go.Proofs.YtkfifbopmpcanaaGreat
open Go.RowKit Go.Shelf
set_option maxHeartbeats 400000 in
theorem zw5 (n lo hi:Int) (a b:Addr) (w:World) (h1:w.cell? a=some (.int .i64 lo)) (h2:w.cell? b=some (.int .i64 hi)) :
  Calls Tryz.prog 105 #[.int .i64 n,.pointer (some a),.pointer (some b)] w fun e w'=>e = .returned (.bool (decide (n < lo) || decide (hi < n)))∧Ext w w':=by
 go_enter Tryz.func105,Tryz.ntmps105
 go_wp2
 all_goals
  go_ret
  exact ⟨zan (by simp [*]),Below.refl _ _⟩
set_option maxHeartbeats 400000 in
theorem zf1 (lo hi:Int) (v:Value) (l:List Int) (w:World) (hv:IsInts w .i64 v l) :
  Calls Tryz.prog 46 #[.int .i64 lo,.int .i64 hi,v] w fun e w'=>e = .returned (.bool (l.all (inR lo hi)))∧Ext w w':=by
 obtain ⟨sa,cap,rfl,h1,h2,h3⟩:=hv.spec
 have H3:=Lib.hid h3
 clear h3 hv
 go_enter Tryz.func46,Tryz.ntmps46
 go_wp2_with fail
 have hE:Ext w ((w.alloc (.cells #[.int .i64 lo] 2)).alloc (.cells #[.int .i64 hi] 2)):=((Below.refl _ _).alloc (Nat.le_refl _) _).alloc (by simp) _
 have e1:((w.alloc (.cells #[.int .i64 lo] 2)).alloc (.cells #[.int .i64 hi] 2)).cell? ⟨w.heap.size,0,none⟩=some (.int .i64 lo):=by simp [go_sem]
 have e2:((w.alloc (.cells #[.int .i64 lo] 2)).alloc (.cells #[.int .i64 hi] 2)).cell? ⟨w.heap.size+1,0,none⟩=some (.int .i64 hi):=by simp [go_sem]
 refine (zrh l sa cap 105 #[.pointer (some ⟨w.heap.size,0,none⟩),.pointer (some ⟨w.heap.size+1,0,none⟩)] (fun n=>decide (n < lo) || decide (hi < n)) _ (by omega) (H3.out.imp id fun ⟨b,off,e,hc⟩=>⟨b,off,e,fun i hi=>zh hE (hc i hi)⟩)
  (fun args W=>Tryz.call105 args W) (fun x _ W hW=>zw5 x lo hi _ _ W (zh hW e1) (zh hW e2))).mono ?_
 rintro e W' ⟨rfl,hb⟩
 clear e1 e2
 go_wp2
 all_goals
  go_ret
  refine ⟨zan (a:=!l.any fun n=>decide (n < lo) || decide (hi < n)) ?_,hE.trans' hb⟩
  exact zy6 lo hi l
theorem zrn {lo hi n:Int} (h:lo≤n∧n≤hi):inR lo hi n=true:=inR_iff.2 h
theorem zol (p:Int→Bool) (x:Int):[x].all p=p x:=by simp
set_option maxRecDepth 100000 in
set_option maxHeartbeats 2000000 in
theorem z3e (rs:List Nat) (ra:Option Addr) (rcap:Nat) (w:World) (hr:IsInts w .i64 (.slice ra rs.length rcap) (rs.map fun (n:Nat)=>(n:Int))) (V:CardV rs):Calls Tryz.prog 166 #[.agg #[.slice ra rs.length rcap]] w fun e w'=>e = .returned (.int .i64 0)∧Ext w w':=by
 have hlo:=V.lo
 have hhi:=V.hi
 go_enter Tryz.func166,Tryz.ntmps166
 go_upto_region 1 with (fail)
 obtain ⟨W0,hW0⟩:∃ W0,W0=w.alloc (.cells #[.slice ra rs.length rcap] 30):=⟨_,rfl⟩
 have hE:Ext w W0:=by rw [hW0];exact xx
 have k0:W0.cell? ⟨w.heap.size,0,none⟩=some (.slice ra rs.length rcap):=by rw [hW0];simp [go_sem]
 have hz:w.heap.size < W0.heap.size:=World.block_lt_of_cell? _ _ k0
 have HW:=Lib.hid hE
 have HR:=Lib.hid (IsInts.ext hE hr)
 rw [← hW0]
 clear hW0 hr
 go_wp2_with fail
 refine za0 (W0:=W0) (g:=⟨W0,Below.refl _ _⟩) xx (zf1 1 5 _ [(rs.length:Int)] _ (zcf (by omega) (by omega) (by simp [go_sem]))) fun g1 hgr=>?_
 clear hgr
 rw [zol,zrn (by omega)]
 go_upto_region 3 with (fail)
 obtain ⟨Z,hZ⟩:∃ zz9,zz9=(grow W0 g1):=⟨_,rfl⟩
 have eZ:Ext W0 Z:=by rw [hZ];exact xx
 replace k0:=zh eZ k0
 replace HR:=Lib.hid (HR.out.ext eZ)
 replace HW:=Lib.hid (HW.out.trans' eZ)
 rw [← hZ]
 replace hz:=World.block_lt_of_cell? _ _ k0
 clear hZ eZ
 simp only at hz
 go_wp2_with fail
 go_loopw [14] (fun iv W=>∃ i:Nat,i≤rs.length∧iv = .int .i64 i∧Ext Z W) (fun iv _=>rs.length - (intOf iv).toNat)
 case atStart=>exact ⟨0,by omega,rfl,Below.refl _ _⟩
 case round =>
  obtain ⟨i,hi,rfl,hE2⟩:=hrel
  obtain ⟨X,rfl⟩:∃ X,X=wr:=⟨_,rfl⟩
  have HEX:=Lib.hid hE2
  by_cases hlt:i < rs.length
  ·have hii:(i:Int) < (rs.length:Int):=by omega
   obtain ⟨rb,ro,rfl,hc⟩:=zcn HR.out hlt
   have c0:=hc i hlt X hE2
   have zc:=World.block_lt_of_cell? _ _ c0
   simp only at zc
   obtain ⟨x,hx⟩:∃ x:Nat,x=rs.getD i 0:=⟨_,rfl⟩
   have hb:=V.each i hlt
   rw [← hx] at c0 hb
   clear hc hE2 hx
   go_wp2_with fail
   refine za0 (W0:=X) (g:=⟨X,Below.refl _ _⟩) xx (zf1 1 6 _ [(x:Int)] _ (zcf (by omega) (by omega) (by simp [go_sem]))) fun g1 hgr=>?_
   clear hgr
   rw [zol,zrn (by omega)]
   go_wp2_with fail
   go_roundw
   case rel=>exact ⟨i+1,by omega,by go_num,HEX.out.trans' (zu X _)⟩
   case measure=>simp [intOf];omega
  ·have hii:¬ ((i:Int) < (rs.length:Int)):=by omega
   clear hE2
   go_wp2_with fail
   go_ret
   exact ⟨rfl,HW.out.trans' HEX.out⟩
set_option maxRecDepth 100000 in
set_option maxHeartbeats 1000000 in
theorem zw6 (rs:List Nat) (ra:Option Addr) (rcap:Nat) (w:World) (_:IsInts w .i64 (.slice ra rs.length rcap) (rs.map fun (n:Nat)=>(n:Int))) (tv:Value) (ta:Option Addr) (tn tc:Nat) (ht:tv = .slice ta tn tc) :
  Calls Tryz.prog 93 #[.agg #[.slice ra rs.length rcap],tv] w fun e w'=>∃ p,e = .returned (.pointer (some ⟨p,0,none⟩))∧Ext w w'∧w.heap.size≤p∧SheetAt w' p (.slice ra rs.length rcap) tv:=by
 subst ht
 go_enter Tryz.func93,Tryz.ntmps93
 go_wp2_with fail
 go_ret
 exact ⟨w.heap.size+1,rfl,by exact xx,by omega,by constructor<;>simp [go_sem]⟩
end Go.Proofs.YtkfifbopmpcanaaGreat
namespace Go.Proofs.YtkfifbopmpcanaaGreat
open Go.RowKit Go.Shelf
attribute [local go_sem] Oper.semAt_some
def zdl (a b:List Nat) (k:Nat):Bool:=(List.range k).all fun r=>(a.getD r 0 &&& b.getD r 0) == b.getD r 0
theorem z0x (a b:List Nat) (k:Nat):zdl a b (k+1)=(zdl a b k && ((a.getD k 0 &&& b.getD k 0) == b.getD k 0)):=by
 unfold zdl
 rw [List.range_succ,List.all_append]
 simp
theorem hasTo_iff {a b:List Nat} {k:Nat}:zdl a b k=true↔∀ r,r < k→sub (b.getD r 0) (a.getD r 0):=by
 unfold zdl
 rw [List.all_eq_true]
 constructor
 ·intro h r hr
  have:=h r (List.mem_range.2 hr)
  exact sub_land.1 (by simpa using this)
 ·intro h r hr
  have:=sub_land.2 (h r (List.mem_range.1 hr))
  simpa using this
set_option maxRecDepth 100000 in
set_option maxHeartbeats 2000000 in
theorem z49 (a b:List Nat) (av bv:Value) (w:World) (ha:IsInts w .i64 av (natL a)) (hb:IsInts w .i64 bv (natL b)) (hl:b.length=a.length) (hA:∀ r,r < a.length→a.getD r 0≤4294967295) (hB:∀ r,r < a.length→b.getD r 0≤4294967295) (h9:a.length≤1000) :
  Calls Tryz.prog 60 #[av,bv] w fun e w'=>e = .returned (.bool (zdl a b a.length))∧Ext w w':=by
 obtain ⟨aa,ac,rfl,a1,a2,-⟩:=ha.spec
 obtain ⟨ba,bc,rfl,b1,b2,-⟩:=hb.spec
 rw [zaq] at ha a1 ⊢
 rw [zaq,hl] at hb b1 ⊢
 have HA:=Lib.hid ha
 have HB:=Lib.hid hb
 have HLA:=Lib.hid hA
 have HLB:=Lib.hid hB
 have HL:=Lib.hid hl
 clear ha hb hA hB hl
 go_enter Tryz.func60,Tryz.ntmps60
 go_wp2_with fail
 go_loopw [8] (fun iv W=>∃ i:Nat,i≤a.length∧iv = .int .i64 i∧zdl a b i=true∧Ext w W) (fun iv _=>a.length - (intOf iv).toNat)
 case atStart=>exact ⟨0,by omega,rfl,by simp [zdl],Below.refl _ _⟩
 case round =>
  obtain ⟨i,hi,rfl,hh,hE⟩:=hrel
  obtain ⟨X,rfl⟩:∃ X,X=wr:=⟨_,rfl⟩
  have HE:=Lib.hid hE
  have HH:=Lib.hid hh
  by_cases hlt:i < a.length
  ·have hii:(i:Int) < (a.length:Int):=by omega
   obtain ⟨ab,ao,rfl,hca⟩:=zcn HA.out hlt
   obtain ⟨bb,bo,rfl,hcb⟩:=zcn HB.out (show i < b.length by rw [HL.out];exact hlt)
   have c0:=hca i hlt X hE
   have c1:=hcb i (by rw [HL.out];exact hlt) X hE
   have z0:=World.block_lt_of_cell? _ _ c0
   have z1:=World.block_lt_of_cell? _ _ c1
   simp only at z0 z1
   have hxa:=HLA.out i hlt
   have hyb:=HLB.out i hlt
   have hsu:=z0x a b i
   rw [hh,Bool.true_and] at hsu
   obtain ⟨x,hx⟩:∃ x:Nat,x=a.getD i 0:=⟨_,rfl⟩
   obtain ⟨y,hy⟩:∃ y:Nat,y=b.getD i 0:=⟨_,rfl⟩
   rw [← hx] at c0 hxa hsu
   rw [← hy] at c1 hyb hsu
   have hbit:=zgc x y hxa hyb
   obtain ⟨z,hz⟩:∃ z:Nat,z=x &&& y:=⟨_,rfl⟩
   rw [← hz] at hbit hsu
   obtain ⟨q,hq⟩:∃ q,((z:Int) != (y:Int))=q:=⟨_,rfl⟩
   have HSU:Hid (zdl a b (i+1) = !q):=Lib.hid (by
    rw [hsu,← hq,Bool.eq_iff_iff]
    simp
    omega)
   clear hca hcb hE hh hx hy hz hsu hxa hyb
   go_upto_region 4 with (fail)
   refine zbb (X.heap.size) (Nat.le_refl _)
    [sqV (.slice (some ⟨ab,ao,none⟩) a.length ac),sqV (.int .i64 i),sqV (.pointer (some ⟨ab,ao+i,none⟩)),sqV (.int .i64 x),sqV (.slice (some ⟨bb,bo,none⟩) a.length bc),sqV (.int .i64 i),sqV (.pointer (some ⟨bb,bo+i,none⟩)),sqV (.int .i64 y),sqV (.int .i64 z),sqV (.slice (some ⟨bb,bo,none⟩) a.length bc),sqV (.int .i64 i),sqV (.pointer (some ⟨bb,bo+i,none⟩)),sqV (.int .i64 y),sqV (.bool q)]
    [true,true,true,true,true,true,true,true,true,true,true,true,true,true] [false,false,false,false,false,false,false,false,false,false,false,false,false,false] [true,true,true,true,true,true,true,true,true,true,true,true,true,true] [true,true,true,true,true,true,true,true,true,true,true,true,true,true]
    (by kernel_rfl) (by kernel_rfl) (by decide +kernel) (by decide +kernel) (by decide +kernel) rfl ⟨rfl,rfl⟩ ⟨?s0,?s1,?s2,?s3,?s4,?s5,?s6,?s7,?s8,?s9,?s10,?s11,?s12,?s13,trivial⟩ [some 11,some 12,some 13,some 14,some 15,some 16,some 17,some 18,some 19,some 20,some 21,some 22,some 23,some 24] rfl rfl ?send
   case s0 =>
    intro val ρ W hE hz hd hA hx
    have o0:ρ (.tmp 0) = .slice (some ⟨ab,ao,none⟩) a.length ac:=hA.old 0 (by decide)
    clear hd
    exact ze (W':=W) (by simp [execOp,o0,go_sem]) (Below.refl _ _) rfl
   case s1 =>
    intro val ρ W hE hz hd hA hx
    have o0:ρ (.tmp 5) = .int .i64 i:=hA.old 5 (by decide)
    clear hd
    exact ze (W':=W) (by simp [execOp,o0,go_sem]) (Below.refl _ _) rfl
   case s2 =>
    intro val ρ W hE hz hd hA hx
    have d0:ρ (.tmp 11) = .slice (some ⟨ab,ao,none⟩) a.length ac:=(hA.dep 0 (by decide) 11 rfl).trans (hd 0 (by decide))
    have d1:ρ (.tmp 12) = .int .i64 i:=(hA.dep 1 (by decide) 12 rfl).trans (hd 1 (by decide))
    clear hd
    exact ze (W':=W) (by simp [execOp,d0,d1,hii,go_sem]) (Below.refl _ _) rfl
   case s3 =>
    intro val ρ W hE hz hd hA hx
    have d2:ρ (.tmp 13) = .pointer (some ⟨ab,ao+i,none⟩):=(hA.dep 2 (by decide) 13 rfl).trans (hd 2 (by decide))
    have f_c0:=cell_below hE (by simp only;omega) c0
    clear hd
    exact ze (W':=W) (by simp [execOp,d2,f_c0,go_sem]) (Below.refl _ _) rfl
   case s4 =>
    intro val ρ W hE hz hd hA hx
    have o0:ρ (.tmp 1) = .slice (some ⟨bb,bo,none⟩) a.length bc:=hA.old 1 (by decide)
    clear hd
    exact ze (W':=W) (by simp [execOp,o0,go_sem]) (Below.refl _ _) rfl
   case s5 =>
    intro val ρ W hE hz hd hA hx
    have o0:ρ (.tmp 5) = .int .i64 i:=hA.old 5 (by decide)
    clear hd
    exact ze (W':=W) (by simp [execOp,o0,go_sem]) (Below.refl _ _) rfl
   case s6 =>
    intro val ρ W hE hz hd hA hx
    have d4:ρ (.tmp 15) = .slice (some ⟨bb,bo,none⟩) a.length bc:=(hA.dep 4 (by decide) 15 rfl).trans (hd 4 (by decide))
    have d5:ρ (.tmp 16) = .int .i64 i:=(hA.dep 5 (by decide) 16 rfl).trans (hd 5 (by decide))
    clear hd
    exact ze (W':=W) (by simp [execOp,d4,d5,hii,go_sem]) (Below.refl _ _) rfl
   case s7 =>
    intro val ρ W hE hz hd hA hx
    have d6:ρ (.tmp 17) = .pointer (some ⟨bb,bo+i,none⟩):=(hA.dep 6 (by decide) 17 rfl).trans (hd 6 (by decide))
    have f_c1:=cell_below hE (by simp only;omega) c1
    clear hd
    exact ze (W':=W) (by simp [execOp,d6,f_c1,go_sem]) (Below.refl _ _) rfl
   case s8 =>
    intro val ρ W hE hz hd hA hx
    have d3:ρ (.tmp 14) = .int .i64 x:=(hA.dep 3 (by decide) 14 rfl).trans (hd 3 (by decide))
    have d7:ρ (.tmp 18) = .int .i64 y:=(hA.dep 7 (by decide) 18 rfl).trans (hd 7 (by decide))
    clear hd
    exact ze (W':=W) (by simp [execOp,d3,d7,hbit,go_sem]) (Below.refl _ _) rfl
   case s9 =>
    intro val ρ W hE hz hd hA hx
    have o0:ρ (.tmp 1) = .slice (some ⟨bb,bo,none⟩) a.length bc:=hA.old 1 (by decide)
    clear hd
    exact ze (W':=W) (by simp [execOp,o0,go_sem]) (Below.refl _ _) rfl
   case s10 =>
    intro val ρ W hE hz hd hA hx
    have o0:ρ (.tmp 5) = .int .i64 i:=hA.old 5 (by decide)
    clear hd
    exact ze (W':=W) (by simp [execOp,o0,go_sem]) (Below.refl _ _) rfl
   case s11 =>
    intro val ρ W hE hz hd hA hx
    have d9:ρ (.tmp 20) = .slice (some ⟨bb,bo,none⟩) a.length bc:=(hA.dep 9 (by decide) 20 rfl).trans (hd 9 (by decide))
    have d10:ρ (.tmp 21) = .int .i64 i:=(hA.dep 10 (by decide) 21 rfl).trans (hd 10 (by decide))
    clear hd
    exact ze (W':=W) (by simp [execOp,d9,d10,hii,go_sem]) (Below.refl _ _) rfl
   case s12 =>
    intro val ρ W hE hz hd hA hx
    have d11:ρ (.tmp 22) = .pointer (some ⟨bb,bo+i,none⟩):=(hA.dep 11 (by decide) 22 rfl).trans (hd 11 (by decide))
    have f_c1:=cell_below hE (by simp only;omega) c1
    clear hd
    exact ze (W':=W) (by simp [execOp,d11,f_c1,go_sem]) (Below.refl _ _) rfl
   case s13 =>
    intro val ρ W hE hz hd hA hx
    have d8:ρ (.tmp 19) = .int .i64 z:=(hA.dep 8 (by decide) 19 rfl).trans (hd 8 (by decide))
    have d12:ρ (.tmp 23) = .int .i64 y:=(hA.dep 12 (by decide) 23 rfl).trans (hd 12 (by decide))
    clear hd
    exact ze (W':=W) (by simp [execOp,d8,d12,hq,go_sem]) (Below.refl _ _) rfl
   case send =>
    intro val WW hE hzz hv
    obtain ⟨-,-,-,-,-,-,-,-,-,-,-,-,-,r13,-⟩:=hv
    have q13:val 13 = .bool q:=r13
    simp only [putD,q13]
    go_frame
    have HE2:=Lib.hid (HE.out.trans' hE)
    clear hE hzz q13 r13 c0 c1 z0 z1 hbit hq
    cases q
    ·go_wp2_with fail
     go_roundw
     case rel=>exact ⟨i+1,by omega,by go_num,by rw [HSU.out];rfl,HE2.out⟩
     case measure=>simp [intOf];omega
    ·have HF:Hid (zdl a b a.length=false):=Lib.hid (by
      cases hf:zdl a b a.length with
      | false=>rfl
      | true =>
       have h1:=hasTo_iff.1 hf
       have h2:zdl a b (i+1)=true:=hasTo_iff.2 fun r hr=>h1 r (by omega)
       rw [HSU.out] at h2
       cases h2)
     go_wp2_with fail
     go_ret
     exact ⟨zan (by rw [HF.out]),HE2.out⟩
  ·have hii:¬ ((i:Int) < (a.length:Int)):=by omega
   have hie:i=a.length:=by omega
   rw [hie] at hh
   have HF:=Lib.hid hh
   clear hE hh hie HH
   go_wp2_with fail
   go_ret
   exact ⟨zan (by rw [HF.out]),HE.out⟩
theorem bshl {n:Nat} (h:n≤6):IntKind.i64.wrap (2 ^ n)=((2 ^ n:Nat):Int)∧2 ^ n≤64∧1≤2 ^ n:=by
 match n,h with
 | 0,_=>decide +kernel
 | 1,_=>decide +kernel
 | 2,_=>decide +kernel
 | 3,_=>decide +kernel
 | 4,_=>decide +kernel
 | 5,_=>decide +kernel
 | 6,_=>decide +kernel
theorem z5a (rs:List Nat) (k:Nat) (h:k < rs.length):allB (rs.take (k+1))=allB (rs.take k) ++ [2 ^ rs.getD k 0 - 1]:=by
 unfold allB
 rw [List.take_add_one,List.getElem?_eq_getElem h,List.map_append,List.getD_eq_getElem?_getD,List.getElem?_eq_getElem h]
 rfl
set_option maxRecDepth 100000 in
set_option maxHeartbeats 4000000 in
theorem z5b (rs:List Nat) (ra:Option Addr) (rcap p:Nat) (tv:Value) (w:World) (hs:SheetAt w p (.slice ra rs.length rcap) tv) (hr:IsInts w .i64 (.slice ra rs.length rcap) (natL rs)) (V:CardV rs) :
  Calls Tryz.prog 118 #[.pointer (some ⟨p,0,none⟩)] w fun e w'=>∃ v,e = .returned v∧Ext w w'∧Owns w' w.heap.size 3 1 v ((natL (allB rs)).map iRow):=by
 have hz:=hs.lt
 have c0:=hs.c0
 have HR:=Lib.hid hr
 have HV:=Lib.hid V
 have hh5:=V.hi
 clear hs hr V
 go_enter Tryz.func118,Tryz.ntmps118
 go_wp2_with fail
 go_loopw [3,12] (fun ov iv W=>∃ k:Nat,k≤rs.length∧iv = .int .i64 k∧Owns W w.heap.size 3 1 ov ((natL (allB (rs.take k))).map iRow)∧Ext w W) (fun _ iv _=>rs.length - (intOf iv).toNat)
 case atStart=>exact ⟨0,by omega,rfl,Owns.nil _ _ _ _,Below.refl _ _⟩
 case round =>
  obtain ⟨k,hk,rfl,ho,hE⟩:=hrel
  obtain ⟨X,rfl⟩:∃ X,X=wr:=⟨_,rfl⟩
  have HO:=Lib.hid ho
  have HE:=Lib.hid hE
  obtain ⟨oa,on,oc,rfl⟩:=ho.isSlice
  by_cases hlt:k < rs.length
  ·have hki:(k:Int) < (rs.length:Int):=by omega
   obtain ⟨rb,ro,rfl,hc⟩:=zcn HR.out hlt
   have cr:=hc k hlt X hE
   have zr:=World.block_lt_of_cell? _ _ cr
   simp only at zr
   have hb:=HV.out.each k hlt
   have hat:=z5a rs k hlt
   obtain ⟨n,hn⟩:∃ n:Nat,n=rs.getD k 0:=⟨_,rfl⟩
   rw [← hn] at cr hb hat
   obtain ⟨h1,h2,h3⟩:=bshl hb.2
   obtain ⟨N,hN⟩:∃ N:Nat,N=2 ^ n:=⟨_,rfl⟩
   rw [← hN] at h1 h2 h3 hat
   obtain ⟨M,hM⟩:∃ M:Nat,N=M+1:=⟨N - 1,by omega⟩
   have hsub:IntKind.i64.wrap ((N:Int) - 1)=(M:Int):=by rw [show (N:Int) - 1=(M:Int) by omega];exact IntWalk.i64_in _ (by omega)
   have hmin:min n 64=n:=by omega
   have HAT:Hid ((natL (allB (rs.take (k+1)))).map iRow=(natL (allB (rs.take k))).map iRow ++ [[.int .i64 (M:Int)]]):=Lib.hid (by
    rw [hat,show N - 1=M by omega]
    simp [natL,iRow])
   have HLEN:Hid (((natL (allB (rs.take k))).map iRow).length + [[Value.int .i64 (M:Int)]].length≤1000000):=Lib.hid (by simp [natL,allB];omega)
   clear hc hn hN hM hat ho hE hb h2 h3
   go_wp2_with (at_builtin;go_loud (refine z5x rfl (.tmp 16) (.tmp 20) elInt rfl w.heap.size rfl (HO.out.ext (by exact xx)) X.heap.size 0 1 [[.int .i64 (M:Int)]] rfl (by simp) (zep _ [.int .i64 (M:Int)] _ _ _ rfl rfl) (by simp [Value.oneCell']) HLEN.out (by have:=HE.out.size;simp;omega) ?_))
   intro v' W4 hown4 hb4
   obtain ⟨va2,vn,vc2,rfl⟩:=hown4.isSlice
   have hE4:Ext w W4:=Below.trans (HE.out.trans' (by exact xx:Ext X (X.alloc (.cells #[.int .i64 (M:Int)] 3)))) hb4
   have HO4:=Lib.hid hown4
   have HE4:=Lib.hid hE4
   clear hown4 hb4 hE4
   go_wp2_with fail
   go_roundw
   case rel=>exact ⟨k+1,by omega,by go_num,by rw [HAT.out];exact HO4.out,HE4.out⟩
   case measure=>simp [intOf];omega
  ·have hki:¬ ((k:Int) < (rs.length:Int)):=by omega
   have HO3:Hid (Owns X w.heap.size 3 1 (.slice oa on oc) ((natL (allB rs)).map iRow)):=Lib.hid (by
    have hke:k=rs.length:=by omega
    rw [hke,List.take_length] at ho
    exact ho)
   clear ho hE
   go_wp2_with fail
   refine bodyPost_ret (v:=.slice oa on oc) (by simp [results,Tryz.results118,go_sem]) rfl ?_
   exact ⟨_,rfl,HE.out,HO3.out⟩
end Go.Proofs.YtkfifbopmpcanaaGreat
namespace Go.Proofs.YtkfifbopmpcanaaGreat
open Go.RowKit Go.Shelf
attribute [local go_sem] Oper.semAt_some
theorem PlAt.set0 {T:TypeId} {W:World} {g:Nat} {r:Int} {f:Nat→Int} (h:PlAt T W g r f) (x:Int):PlAt T (W.setCell ⟨g,0,none⟩ (.int .i64 x)) g x f:=by
 obtain ⟨cur,h1,hn,h0,h2⟩:=h
 refine ⟨_,zab h1 0 _,by simpa using hn,?_,fun j hj=>?_⟩
 ·rw [Array.getElem?_setIfInBounds,if_pos rfl,if_pos (by omega)]
 ·rw [Array.getElem?_setIfInBounds,if_neg (by omega),h2 j hj]
theorem PlAt.store {T:TypeId} {W:World} {g:Nat} {r:Int} {f:Nat→Int} (h:PlAt T W g r f) (r':Int) (f':Nat→Int) :
  PlAt T (((((((((((W.setCell ⟨g,0,none⟩ (.int .i64 r')).setCell ⟨g,1,none⟩ (.int .i64 (f' 0))).setCell ⟨g,2,none⟩ (.int .i64 (f' 1))).setCell ⟨g,3,none⟩ (.int .i64 (f' 2))).setCell ⟨g,4,none⟩ (.int .i64 (f' 3))).setCell ⟨g,5,none⟩ (.int .i64 (f' 4))).setCell ⟨g,6,none⟩ (.int .i64 (f' 5))).setCell ⟨g,7,none⟩ (.int .i64 (f' 6))).setCell ⟨g,8,none⟩ (.int .i64 (f' 7))).setCell ⟨g,9,none⟩ (.int .i64 (f' 8))).setCell ⟨g,10,none⟩ (.int .i64 (f' 9))) g r' f':=by
 refine (((((((((((h.set0 r').set 0 (by omega) (f' 0)).set 1 (by omega) (f' 1)).set 2 (by omega) (f' 2)).set 3 (by omega) (f' 3)).set 4 (by omega) (f' 4)).set 5 (by omega) (f' 5)).set 6 (by omega) (f' 6)).set 7 (by omega) (f' 7)).set 8 (by omega) (f' 8)).set 9 (by omega) (f' 9)).congr fun j hj=>?_
 match j,hj with
 | 0,_=>simp
 | 1,_=>simp
 | 2,_=>simp
 | 3,_=>simp
 | 4,_=>simp
 | 5,_=>simp
 | 6,_=>simp
 | 7,_=>simp
 | 8,_=>simp
 | 9,_=>simp
theorem ztq {w W:World} (h:Ext w W) {g:Nat} (hg:w.heap.size≤g) (a0 a1 a2 a3 a4 a5 a6 a7 a8 a9 a10:Value):Ext w (((((((((((W.setCell ⟨g,0,none⟩ a0).setCell ⟨g,1,none⟩ a1).setCell ⟨g,2,none⟩ a2).setCell ⟨g,3,none⟩ a3).setCell ⟨g,4,none⟩ a4).setCell ⟨g,5,none⟩ a5).setCell ⟨g,6,none⟩ a6).setCell ⟨g,7,none⟩ a7).setCell ⟨g,8,none⟩ a8).setCell ⟨g,9,none⟩ a9).setCell ⟨g,10,none⟩ a10):=by
 exact (((((((((((h.setCell (p:=⟨g,0,none⟩) hg _).setCell (p:=⟨g,1,none⟩) hg _).setCell (p:=⟨g,2,none⟩) hg _).setCell (p:=⟨g,3,none⟩) hg _).setCell (p:=⟨g,4,none⟩) hg _).setCell (p:=⟨g,5,none⟩) hg _).setCell (p:=⟨g,6,none⟩) hg _).setCell (p:=⟨g,7,none⟩) hg _).setCell (p:=⟨g,8,none⟩) hg _).setCell (p:=⟨g,9,none⟩) hg _).setCell (p:=⟨g,10,none⟩) hg _)
theorem PlAt.cells {T:TypeId} {W:World} {g:Nat} {r:Int} {f:Nat→Int} (h:PlAt T W g r f):W.cell? ⟨g,0,none⟩=some (.int .i64 r)∧W.cell? ⟨g,1,none⟩=some (.int .i64 (f 0))∧W.cell? ⟨g,2,none⟩=some (.int .i64 (f 1))∧W.cell? ⟨g,3,none⟩=some (.int .i64 (f 2))∧W.cell? ⟨g,4,none⟩=some (.int .i64 (f 3))∧W.cell? ⟨g,5,none⟩=some (.int .i64 (f 4))∧W.cell? ⟨g,6,none⟩=some (.int .i64 (f 5))∧W.cell? ⟨g,7,none⟩=some (.int .i64 (f 6))∧W.cell? ⟨g,8,none⟩=some (.int .i64 (f 7))∧W.cell? ⟨g,9,none⟩=some (.int .i64 (f 8))∧W.cell? ⟨g,10,none⟩=some (.int .i64 (f 9)) :=
 ⟨h.c0,h.cell 0 (by omega),h.cell 1 (by omega),h.cell 2 (by omega),h.cell 3 (by omega),h.cell 4 (by omega),h.cell 5 (by omega),h.cell 6 (by omega),h.cell 7 (by omega),h.cell 8 (by omega),h.cell 9 (by omega)⟩
theorem zsl {a b c:World} {q:Nat} (h:Ext a b) (k:Kept (fun k=>k≠q) b c) (hq:a.heap.size≤q):Ext a c :=
 Below.trans h ((k.mono (T:=fun k=>k < a.heap.size) (fun i _ hi=>by omega)).below h.size)
theorem zlx (T:TypeId) (w:World):PlAt T (w.alloc (.cells #[.int .i64 0,.int .i64 0,.int .i64 0,.int .i64 0,.int .i64 0,.int .i64 0,.int .i64 0,.int .i64 0,.int .i64 0,.int .i64 0,.int .i64 0] T)) w.heap.size 0 (fun _=>0):=zdx T w 0 (fun _=>0)
def stTo (i:Nat) (j:Nat):Int:=if j < i then 1 else 0
theorem z5c {n j:Nat}:stTo n j=mkI (List.replicate n true) j:=by
 unfold stTo mkI
 rw [List.getD_eq_getElem?_getD,List.getElem?_replicate]
 by_cases h:j < n
 ·rw [if_pos h,if_pos h];rfl
 ·rw [if_neg h,if_neg h];rfl
def nxTo (ts:List (List Nat)) (race:Nat) (al:List Bool) (i k j:Nat):Int:=if j < k then mkI (zbi ts race al i) j else 0
theorem z5d {ts:List (List Nat)} {race:Nat} {al:List Bool} {i n j:Nat} (hn:ts.length=n):nxTo ts race al i n j=mkI (zbi ts race al i) j:=by
 unfold nxTo
 by_cases h:j < n
 ·rw [if_pos h]
 ·rw [if_neg h]
  unfold mkI
  rw [List.getD_eq_getElem?_getD,List.getElem?_eq_none (by rw [zfr];omega)]
  rfl
set_option maxRecDepth 100000 in
set_option maxHeartbeats 4000000 in
theorem z3f (n p:Nat) (rv:Value) (ta:Option Addr) (tc:Nat) (w:World) (hs:SheetAt w p rv (.slice ta n tc)) (hn:n≤10) :
  Calls Tryz.prog 99 #[.pointer (some ⟨p,0,none⟩)] w fun e w'=>e = .returned (.agg (zbp 0 (mkI (List.replicate n true))))∧Ext w w':=by
 have hz:=hs.lt
 have c1:=hs.c1
 clear hs
 go_enter Tryz.func99,Tryz.ntmps99
 go_upto_region 2 with (fail)
 obtain ⟨W0,hW0⟩:∃ W0,W0=(w.alloc (.cells #[.int .i64 0,.int .i64 0,.int .i64 0,.int .i64 0,.int .i64 0,.int .i64 0,.int .i64 0,.int .i64 0,.int .i64 0,.int .i64 0,.int .i64 0] 172)).alloc (.cells #[.int .i64 0,.int .i64 0,.int .i64 0,.int .i64 0,.int .i64 0,.int .i64 0,.int .i64 0,.int .i64 0,.int .i64 0,.int .i64 0,.int .i64 0] 172):=⟨_,rfl⟩
 have hE:Ext w W0:=by rw [hW0];exact xx
 have hr:PlAt 172 W0 w.heap.size 0 (fun _=>0):=by
  rw [hW0]
  exact (zlx _ w).ext xx
 have hp:PlAt 172 W0 (w.heap.size+1) 0 (stTo 0):=by
  have h:=(zlx 172 (w.alloc (.cells #[.int .i64 0,.int .i64 0,.int .i64 0,.int .i64 0,.int .i64 0,.int .i64 0,.int .i64 0,.int .i64 0,.int .i64 0,.int .i64 0,.int .i64 0] 172))).congr (f':=stTo 0) fun j _=>by unfold stTo;simp
  rw [← hW0] at h
  simpa using h
 have k1:=zh hE c1
 have hzw:W0.heap.size=w.heap.size+2:=by rw [hW0];simp
 obtain ⟨q,hq⟩:∃ q,q=w.heap.size:=⟨_,rfl⟩
 rw [← hW0]
 rw [← hq] at hr hp hzw ⊢
 obtain ⟨g,hg⟩:∃ g,g=q+1:=⟨_,rfl⟩
 rw [← hg] at hp ⊢
 have HR:=Lib.hid hr
 have HP:=Lib.hid hp
 have HE:=Lib.hid hE
 have HQ:=Lib.hid hq
 have HG:=Lib.hid hg
 have HZ:=Lib.hid hzw
 have hzp:p < W0.heap.size:=by omega
 have hpg:p≠g:=by omega
 have HPG:=Lib.hid hpg
 clear hW0 hE hr hp hq hg hzw c1 hz hpg
 go_wp2_with fail
 go_loopw [10] (fun iv wr=>∃ i:Nat,i≤n∧iv = .int .i64 i∧PlAt 172 wr g 0 (stTo i)∧Kept (fun k=>k≠g) W0 wr) (fun iv _=>n - (intOf iv).toNat)
 case atStart=>exact ⟨0,by omega,rfl,HP.out,Kept.refl _ _⟩
 case round =>
  obtain ⟨i,hi,rfl,hA,hK⟩:=hrel
  have HA:=Lib.hid hA
  have HK:=Lib.hid hK
  by_cases hlt:i < n
  ·have hii:(i:Int) < (n:Int):=by omega
   have ci:=hA.cell i (by omega)
   have hfr:=hA.free (1+i)
   have hgl:=hA.lt
   have hi10:i < 10:=by omega
   clear hA hK
   go_wp2_with fail
   go_roundw
   case rel =>
    refine ⟨i+1,by omega,by go_num,(HA.out.set i hi10 1).congr fun j hj=>?_,HK.out.setCell (fun _ h=>h rfl) _⟩
    unfold stTo
    by_cases e:j=i
    ·rw [if_pos e,if_pos (by omega)]
    ·rw [if_neg e]
     by_cases e2:j < i
     ·rw [if_pos e2,if_pos (by omega)]
     ·rw [if_neg e2,if_neg (by omega)]
   case measure=>simp [intOf];omega
  ·have hii:¬ ((i:Int) < (n:Int)):=by omega
   have hie:i=n:=by omega
   rw [hie] at hA
   have hA2:PlAt 172 wr g 0 (mkI (List.replicate n true)):=hA.congr fun j _=>z5c
   obtain ⟨f,hf⟩:∃ f,f=mkI (List.replicate n true):=⟨_,rfl⟩
   rw [← hf] at hA2
   have HFF:=Lib.hid hf
   obtain ⟨a0,a1,a2,a3,a4,a5,a6,a7,a8,a9,a10⟩:=hA2.cells
   have hq1:=HR.out.of_heap (hK.same q (by rw [HZ.out];omega) (by have:=HG.out;omega))
   obtain ⟨d0,d1,d2,d3,d4,d5,d6,d7,d8,d9,d10⟩:=hq1.cells
   have hfr:=hq1.free
   have hgl:=hA2.lt
   have hrl:=hq1.lt
   have HE2:Hid (Ext w wr):=Lib.hid (zsl HE.out hK (by have:=HG.out;have:=HQ.out;omega))
   have HRQ:=Lib.hid HQ.out
   clear hA hA2 hK hq1 HA HK hi hie hf
   go_wp2_with fail
   refine bodyPost_ret (v:=.agg (zbp 0 f)) (by simp [zbp,results,Tryz.results99,go_sem,d0,d1,d2,d3,d4,d5,d6,d7,d8,d9,d10]) rfl ?_
   exact ⟨by rw [HFF.out],ztq HE2.out (by have:=HRQ.out;omega) _ _ _ _ _ _ _ _ _ _ _⟩
end Go.Proofs.YtkfifbopmpcanaaGreat
namespace Go.Proofs.YtkfifbopmpcanaaGreat
open Go.RowKit Go.Shelf
attribute [local go_sem] Oper.semAt_some
theorem Kept.drNb {S:Nat→Prop} {a b:World} (h:Kept S a b) (n:Nat):Kept S a (b.drewN n):=⟨h.os,h.tape,h.output,h.size,h.same⟩
theorem zsm {ps:List (Value × Tk)} {k:Nat} (h:k < ps.length):(zal (zj ps)).getD k []=ps[k].2.s:=by
 rw [List.getD_eq_getElem?_getD]
 simp [zal,zj,List.getElem?_eq_getElem h]
theorem zdy (ps:List (Value × Tk)):(zal (zj ps)).length=ps.length:=by simp [zal,zj]
set_option maxRecDepth 100000 in
set_option maxHeartbeats 8000000 in
theorem zw7 (ps:List (Value × Tk)) (al:List Bool) (race i n p:Nat) (rv:Value) (ta:Option Addr) (tc:Nat) (w:World) (hs:SheetAt w p rv (.slice ta ps.length tc)) (ht:IsTks w (.slice ta ps.length tc) ps) (hl:ps.length≤10) (hr:race < n) (hn:n≤5)
  (hlen:∀ x∈ps,x.2.s.length=n) (hle:∀ x∈ps,∀ r,r < n→x.2.s.getD r 0≤64) (hi:i≤6) :
  Calls Tryz.prog 94 #[.pointer (some ⟨p,0,none⟩),.agg (zbp race (mkI al)),.int .i64 i] w fun e w'=>e = .returned (.agg (zbp ((race:Int)+1) (mkI (zbi (zal (zj ps)) race al i))))∧Ext w w':=by
 have hz:=hs.lt
 have c1:=hs.c1
 have HT0:=Lib.hid ht
 have HLEN:=Lib.hid hlen
 have HLE:=Lib.hid hle
 clear hs ht hlen hle
 unfold zbp
 obtain ⟨f,hf⟩:∃ f,f=mkI al:=⟨_,rfl⟩
 rw [← hf]
 have HF:=Lib.hid hf
 clear hf
 go_enter Tryz.func94,Tryz.ntmps94
 go_upto_region 1 with (fail)
 obtain ⟨W9,hW9⟩:∃ W9,W9=(w.alloc (.cells #[.int .i64 race,.int .i64 (f 0),.int .i64 (f 1),.int .i64 (f 2),.int .i64 (f 3),.int .i64 (f 4),.int .i64 (f 5),.int .i64 (f 6),.int .i64 (f 7),.int .i64 (f 8),.int .i64 (f 9)] 172)).alloc (.cells #[.int .i64 0,.int .i64 0,.int .i64 0,.int .i64 0,.int .i64 0,.int .i64 0,.int .i64 0,.int .i64 0,.int .i64 0,.int .i64 0,.int .i64 0] 172):=⟨_,rfl⟩
 have hE9:Ext w W9:=by rw [hW9];exact xx
 have hr9:PlAt 172 W9 (w.heap.size+1) 0 (fun _=>0):=by
  have h:=zlx 172 (w.alloc (.cells #[.int .i64 race,.int .i64 (f 0),.int .i64 (f 1),.int .i64 (f 2),.int .i64 (f 3),.int .i64 (f 4),.int .i64 (f 5),.int .i64 (f 6),.int .i64 (f 7),.int .i64 (f 8),.int .i64 (f 9)] 172))
  rw [← hW9] at h
  simpa using h
 have hp9:PlAt 172 W9 w.heap.size race f:=by
  rw [hW9]
  exact (zdx 172 w race f).ext xx
 have hz9:W9.heap.size=w.heap.size+2:=by rw [hW9];simp
 have kp9:=hp9.c0
 have kz9:=hp9.lt
 have hwr:IntKind.i64.wrap ((race:Int)+1)=(race:Int)+1:=IntWalk.i64_in _ (by omega)
 rw [← hW9]
 clear hW9
 go_upto_region 2 with (fail)
 obtain ⟨R0,hR0⟩:∃ R0,R0=(race:Int)+1:=⟨_,rfl⟩
 rw [← hR0]
 obtain ⟨Z0,hZ0⟩:∃ Z0:Nat→Int,Z0=fun _=>0:=⟨_,rfl⟩
 obtain ⟨W0,hW0⟩:∃ W0,W0=W9.alloc (.cells #[.int .i64 R0,.int .i64 0,.int .i64 0,.int .i64 0,.int .i64 0,.int .i64 0,.int .i64 0,.int .i64 0,.int .i64 0,.int .i64 0,.int .i64 0] 172):=⟨_,rfl⟩
 have hg0:PlAt 172 W0 W9.heap.size ((race:Int)+1) (nxTo (zal (zj ps)) race al i 0):=by
  rw [hW0,← hR0]
  exact (zdx 172 W9 R0 (fun _=>0)).congr fun j _=>by unfold nxTo;simp
 have hE0:Ext W9 W0:=by rw [hW0];exact xx
 rw [← hW0]
 rw [hR0]
 have hE:=hE9.trans' hE0
 have hr:=hr9.ext hE0
 have hp:=hp9.ext hE0
 have k1:=zh hE c1
 obtain ⟨q,hq⟩:∃ q,q=w.heap.size:=⟨_,rfl⟩
 obtain ⟨g,hg⟩:∃ g,g=q+2:=⟨_,rfl⟩
 rw [← hq] at hr hp hz9 ⊢
 rw [hz9] at hg0
 rw [← hg] at hg0 ⊢
 have hzg:g < W0.heap.size:=hg0.lt
 have hgq:g=q+2:=by omega
 have HR:=Lib.hid hr
 have HPQ:=Lib.hid hp
 have HG0:=Lib.hid hg0
 have HE:=Lib.hid hE
 have HQ:=Lib.hid hq
 have HGQ:=Lib.hid hgq
 have HZG:=Lib.hid hzg
 have hzp:p < W0.heap.size:=by omega
 clear hW0 hR0 hZ0 hg0 hE0 hE hr hp hq hg hz9 hr9 hp9 kp9 kz9 hE9 c1 hz hgq hzg hwr
 go_wp2_with fail
 go_loopw [19] (fun iv wr=>∃ k:Nat,k≤ps.length∧iv = .int .i64 k∧PlAt 172 wr g ((race:Int)+1) (nxTo (zal (zj ps)) race al i k)∧Kept (fun k=>k≠g) W0 wr) (fun iv _=>ps.length - (intOf iv).toNat)
 case atStart=>exact ⟨0,by omega,rfl,HG0.out,Kept.refl _ _⟩
 case round =>
  obtain ⟨k,hk,rfl,hA,hK⟩:=hrel
  have HA:=Lib.hid hA
  have HK:=Lib.hid hK
  have hEw:Ext w wr:=zsl HE.out hK (by have:=HQ.out;have:=HGQ.out;omega)
  have HEW:=Lib.hid hEw
  have HPA:Hid (PlAt 172 wr q race f):=Lib.hid (HPQ.out.of_heap (hK.same q (by have:=HZG.out;have:=HGQ.out;omega) (by have:=HGQ.out;omega)))
  have HRA:Hid (PlAt 172 wr (q+1) 0 (fun _=>0)):=Lib.hid (HR.out.of_heap (hK.same (q+1) (by have:=HZG.out;have:=HGQ.out;omega) (by have:=HGQ.out;omega)))
  by_cases hlt:k < ps.length
  ·have hki:(k:Int) < (ps.length:Int):=by omega
   have hT:=HT0.out.ext hEw
   obtain ⟨_,_,e9,-,-,hcc⟩:=hT.spec
   cases e9
   rcases hcc with hc0 | ⟨tb,to,rfl,hcc⟩
   ·rw [hc0] at hlt;simp at hlt
   obtain ⟨t0,t1⟩:=hcc k hlt
   have zt:=World.block_lt_of_cell? _ _ t0
   simp only at zt
   have hln:=HLEN.out _ (List.getElem_mem hlt)
   have hsv0:=hT.sets _ (List.getElem_mem hlt)
   obtain ⟨sa,sc,hsv,-,-,-⟩:=hsv0.spec
   rw [zaq,hln] at hsv
   rw [hsv] at hsv0 t0
   obtain ⟨sb,so,rfl,hcs⟩:=zcn hsv0 (show race < ps[k].2.s.length by rw [hln];exact hr)
   have hcs1:=fun W e=>hcs race (by rw [hln];exact hr) W e
   have hs64:=HLE.out _ (List.getElem_mem hlt) race hr
   obtain ⟨u,hu⟩:∃ u,u=ps[k].2.u:=⟨_,rfl⟩
   rw [← hu] at t1
   have hmk:bits .and .i64 (f k) ((ps[k].2.s.getD race 0:Int) / 2 ^ i)=mkI (zbi (zal (zj ps)) race al i) k:=by
    rw [zpo,HF.out]
    have h:=z3c (ts:=zal (zj ps)) (race:=race) (al:=al) (i:=i) (j:=k) (by rw [zdy];exact hlt) (by rw [zsm hlt];omega)
    rw [zsm hlt] at h
    exact h
   obtain ⟨s,hs⟩:∃ s:Nat,s=ps[k].2.s.getD race 0:=⟨_,rfl⟩
   rw [← hs] at hcs1 hs64 hmk
   obtain ⟨m,hm⟩:∃ m,m=mkI (zbi (zal (zj ps)) race al i) k:=⟨_,rfl⟩
   rw [← hm] at hmk
   have HM:=Lib.hid hm
   have hk10:k < 10:=by omega
   have hk10i:(k:Int) < 10:=by omega
   have hri:(race:Int) < (n:Int):=by omega
   clear hA hK hT hcc hln hsv0 hsv hs hm hu hcs hEw
   go_upto_region 5 with (fail)
   obtain ⟨X,hX⟩:∃ X,X=wr.alloc (.cells #[.slice (some ⟨sb,so,none⟩) n sc,.int .i64 u] 33):=⟨_,rfl⟩
   have hEX:Ext wr X:=by rw [hX];exact xx
   have x0:X.cell? ⟨wr.heap.size,0,none⟩=some (.slice (some ⟨sb,so,none⟩) n sc):=by rw [hX];simp [go_sem]
   have hA2:=HA.out.ext hEX
   have hP2:=HPA.out.ext hEX
   have xs:=hcs1 X hEX
   have xf:=hP2.cell k hk10
   have xr:=hP2.c0
   have xg:=hA2.cell k hk10
   have xfr:=hA2.free (1+k)
   have zg:=hA2.lt
   have zq:=hP2.lt
   have zx:=World.block_lt_of_cell? _ _ x0
   have zs:=World.block_lt_of_cell? _ _ xs
   simp only at zx zs
   rw [← hX]
   have HA2:=Lib.hid hA2
   have HEX:=Lib.hid hEX
   clear hX hA2 hP2 hEX t0 t1 hcs1 zt
   refine (wpIn_wide (n:=9)).1 ?_
   refine zzv rfl rfl (by kernel_rfl) (by kernel_rfl) (by kernel_rfl) ?_
   dsimp only [List.dropLast]
   repeat (first | go_big_quiet_step (fail) | quiet_step (fail))
   refine wpQuiet_nil ?_
   rintro _ ⟨nq,rfl⟩
   gi_wp2_with fail
   go_wp2_with fail
   go_roundw
   case rel =>
    refine ⟨k+1,by omega,by go_num,((HA2.out.of_heap (W':=X.drewN nq) rfl).set k hk10 m).congr fun j hj=>?_,((HK.out.trans (Kept.of_below HEX.out)).drNb nq).setCell (fun _ h=>h rfl) _⟩
    unfold nxTo
    by_cases e:j=k
    ·rw [if_pos e,if_pos (by omega),HM.out,e]
    ·rw [if_neg e]
     by_cases e2:j < k
     ·rw [if_pos e2,if_pos (by omega)]
     ·rw [if_neg e2,if_neg (by omega)]
   case measure=>simp [intOf];omega
  ·have hki:¬ ((k:Int) < (ps.length:Int)):=by omega
   have hke:k=ps.length:=by omega
   rw [hke] at hA
   have hA2:PlAt 172 wr g ((race:Int)+1) (mkI (zbi (zal (zj ps)) race al i)):=hA.congr fun j _=>z5d (zdy ps)
   obtain ⟨m,hm⟩:∃ m,m=mkI (zbi (zal (zj ps)) race al i):=⟨_,rfl⟩
   obtain ⟨R,hR⟩:∃ R,R=(race:Int)+1:=⟨_,rfl⟩
   rw [← hm,← hR] at hA2
   have HM:=Lib.hid hm
   have HRR:=Lib.hid hR
   obtain ⟨a0,a1,a2,a3,a4,a5,a6,a7,a8,a9,a10⟩:=hA2.cells
   have hq1:=HRA.out
   obtain ⟨d0,d1,d2,d3,d4,d5,d6,d7,d8,d9,d10⟩:=hq1.cells
   have hfr:=hq1.free
   have hgl:=hA2.lt
   have hrl:=hq1.lt
   have HRQ:=Lib.hid HQ.out
   clear hA hA2 hK hq1 HA HK hk hke hm hR hEw HPA HRA
   go_wp2_with fail
   refine bodyPost_ret (v:=.agg (zbp R m)) (by simp [zbp,results,Tryz.results94,go_sem,d0,d1,d2,d3,d4,d5,d6,d7,d8,d9,d10]) rfl ?_
   exact ⟨by rw [HM.out,HRR.out];rfl,ztq HEW.out (by have:=HRQ.out;omega) _ _ _ _ _ _ _ _ _ _ _⟩
end Go.Proofs.YtkfifbopmpcanaaGreat
namespace Go.Proofs.YtkfifbopmpcanaaGreat
open Go.RowKit Go.Shelf
attribute [local go_sem] Oper.semAt_some
theorem zzb {us:List Int} {al:List Bool} (hu:∀ j,0≤us.getD j 0∧us.getD j 0≤1000):∀ k,0≤valB us al k∧valB us al k≤1000 * (k:Int)
 | 0=>by simp [valB]
 | k+1=>by
  have h:=zzb (al:=al) hu k
  have h1:=hu k
  unfold valB
  split<;>omega
set_option maxRecDepth 100000 in
set_option maxHeartbeats 4000000 in
theorem zro (ps:List (Value × Tk)) (al:List Bool) (p:Nat) (rv:Value) (ta:Option Addr) (tc:Nat) (w:World) (hs:SheetAt w p rv (.slice ta ps.length tc)) (ht:IsTks w (.slice ta ps.length tc) ps) (hl:ps.length≤10) (hu:∀ j,0≤(zar (zj ps)).getD j 0∧(zar (zj ps)).getD j 0≤1000) :
  Calls Tryz.prog 97 #[.pointer (some ⟨p,0,none⟩),.agg #[.int .i64 (mkI al 0),.int .i64 (mkI al 1),.int .i64 (mkI al 2),.int .i64 (mkI al 3),.int .i64 (mkI al 4),.int .i64 (mkI al 5),.int .i64 (mkI al 6),.int .i64 (mkI al 7),.int .i64 (mkI al 8),.int .i64 (mkI al 9)]] w fun e w' =>
   e = .returned (.int .i64 (valB (zar (zj ps)) al ps.length))∧Ext w w':=by
 have HS:=Lib.hid hs
 have HT:=Lib.hid ht
 have HU:=Lib.hid hu
 clear hs ht hu
 go_enter Tryz.func97,Tryz.ntmps97
 go_upto_region 1 with (fail)
 obtain ⟨W0,hW0⟩:∃ W0,W0=w.alloc (.cells #[.int .i64 (mkI al 0),.int .i64 (mkI al 1),.int .i64 (mkI al 2),.int .i64 (mkI al 3),.int .i64 (mkI al 4),.int .i64 (mkI al 5),.int .i64 (mkI al 6),.int .i64 (mkI al 7),.int .i64 (mkI al 8),.int .i64 (mkI al 9)] 170):=⟨_,rfl⟩
 have hE:Ext w W0:=by rw [hW0];exact xx
 have hM:MkAt 170 W0 w.heap.size (mkI al):=by rw [hW0];exact z3d _ w (mkI al)
 rw [← hW0]
 have c1:=zh hE HS.out.c1
 have hz:=World.block_lt_of_cell? _ _ c1
 simp only at hz
 have HM:=Lib.hid hM
 have HE:=Lib.hid hE
 clear hW0 hE hM
 go_wp2_with fail
 go_loopw [5,13] (fun nv iv W=>∃ k:Nat,k≤ps.length∧iv = .int .i64 k∧nv = .int .i64 (valB (zar (zj ps)) al k)∧Ext W0 W) (fun _ iv _=>ps.length - (intOf iv).toNat)
 case atStart=>exact ⟨0,by omega,rfl,rfl,Below.refl _ _⟩
 case round =>
  obtain ⟨k,hk,rfl,rfl,hEX⟩:=hrel
  obtain ⟨X,rfl⟩:∃ X,X=wr:=⟨_,rfl⟩
  have HEX:=Lib.hid hEX
  have hvb:=zzb (al:=al) HU.out k
  have hub:=HU.out k
  by_cases hlt:k < ps.length
  ·have hki:(k:Int) < (ps.length:Int):=by omega
   obtain ⟨_,_,e9,-,-,hcc⟩:=(HT.out.ext (HE.out.trans' hEX)).spec
   cases e9
   rcases hcc with hc0 | ⟨tb,to,rfl,hcc⟩
   ·rw [hc0] at hlt;simp at hlt
   obtain ⟨t0,t1⟩:=hcc k hlt
   have zt:=World.block_lt_of_cell? _ _ t0
   simp only at zt
   obtain ⟨sb,sc,hsv,-,-,-⟩:=(HT.out.sets _ (List.getElem_mem hlt)).spec
   rw [hsv] at t0
   have hk10:k < 10:=by omega
   have hk10i:(k:Int) < 10:=by omega
   have cm:=zh hEX (HM.out.cell k hk10)
   have zm:=World.block_lt_of_cell? _ _ cm
   simp only at zm
   obtain ⟨u,hu⟩:∃ u,u=ps[k].2.u:=⟨_,rfl⟩
   have huu:(zar (zj ps)).getD k 0=u:=by
    rw [hu,List.getD_eq_getElem?_getD]
    simp [zar,zj,List.getElem?_eq_getElem hlt]
   rw [← hu] at t1
   obtain ⟨v,hv⟩:∃ v,v=valB (zar (zj ps)) al k:=⟨_,rfl⟩
   have hsu:valB (zar (zj ps)) al (k+1)=v+if al.getD k false=true then u else 0:=by rw [hv,← huu];rfl
   rw [huu] at hub
   rw [← hv] at hvb ⊢
   cases ha:al.getD k false
   ·have hmk:mkI al k=0:=by unfold mkI;rw [ha];rfl
    rw [hmk] at cm
    rw [ha] at hsu
    have HSU:Hid (valB (zar (zj ps)) al (k+1)=v):=Lib.hid (by rw [hsu];simp)
    clear hsu hmk ha hv hu huu hsv hcc hEX
    go_wp2_with fail
    go_roundw
    case rel=>exact ⟨k+1,by omega,by go_num,by rw [HSU.out],HEX.out.trans' (by exact xx)⟩
    case measure=>simp [intOf];omega
   ·have hmk:mkI al k=1:=by unfold mkI;rw [ha];rfl
    rw [hmk] at cm
    rw [ha] at hsu
    have HSU:Hid (valB (zar (zj ps)) al (k+1)=v+u):=Lib.hid (by rw [hsu];simp)
    have hw1:IntKind.i64.wrap (v+u)=v+u:=IntWalk.i64_in _ (by omega)
    clear hsu hmk ha hv hu huu hsv hcc hEX
    go_wp2_with fail
    go_roundw
    case rel=>exact ⟨k+1,by omega,by go_num,by rw [HSU.out],HEX.out.trans' (by exact xx)⟩
    case measure=>simp [intOf];omega
  ·have hki:¬ ((k:Int) < (ps.length:Int)):=by omega
   have hke:k=ps.length:=by omega
   obtain ⟨v,hv⟩:∃ v,v=valB (zar (zj ps)) al k:=⟨_,rfl⟩
   rw [← hv]
   have HVV:Hid (v=valB (zar (zj ps)) al ps.length):=Lib.hid (by rw [hv,hke])
   clear hEX hv hke hvb
   go_wp2_with fail
   go_ret
   exact ⟨zau HVV.out,HE.out.trans' HEX.out⟩
end Go.Proofs.YtkfifbopmpcanaaGreat
