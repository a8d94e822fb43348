/-
  Code that is reckoned step by step: a stack of places in a function's body, so that a part may end anywhere, in a round of a loop too. A call that lays new memory is a summary as well.
-/
import Derived.Test.YtnfdiohfojjnlaaGreatLf
set_option maxRecDepth 200000
set_option maxHeartbeats 0
namespace Go.Proofs.YtnfdiohfojjnlaaGreat
open Go.RowKit
inductive Pc where
 | c (p:List Nat)
 | lp (p:List Nat)
 | eb (id:Nat)
 | es
def kid (i:Nat) (c:Code):Code:=match c with
 | .seq a b=>(match i with
  | 0=>a
  | _=>b)
 | .cond _ a b=>(match i with
  | 0=>a
  | _=>b)
 | .block _ b=>b
 | .loop b=>b
 | .scope b=>b
 | _=>.skip
def za6 (c:Code):List Nat→Code
 | []=>c
 | i :: p=>kid i (za6 c p)
def zkm (F:Fence) (n:Nat) (P:Program) (c:Code) (Q:Exit→Act→World→Prop) (a:Act) (w:World):Prop :=
 ∀ (b:Frame) (k:List Item) (cs:List Frame),b.roundOf=F.round→F.fn b.fn→F.room (cs.length+1+n) →
  ∃ e a' w',Q e a' w'∧ArrivesIn (Machine.fenced P F) P (lone (b.atR a (.code c :: .inLoop c :: k)) cs w) b k cs e a' w'
section
variable {F:Fence} {n:Nat} {P:Program} {c:Code} {Q Q':Exit→Act→World→Prop} {a:Act} {w:World}
theorem z53 (h:zkm F n P c Q a w) (hq:∀ e a w,Q e a w→Q' e a w):zkm F n P c Q' a w :=
 fun b k cs hro hb hr=>let ⟨e,a',w',q,r⟩:=h b k cs hro hb hr;⟨e,a',w',hq _ _ _ q,r⟩
theorem zaa2 (h:zkm F n P c Q a w):(Code.loop c).wpIn F n P Q a w:=fun b k cs hro hb hr=>by
 obtain ⟨e,a',w',hq,harr⟩:=h b k cs hro hb hr;exact ⟨e,a',w',hq,.of_steps (.one (fenced_calm hb hr rfl) stepR_loop) harr⟩
theorem z54 (h:c.wpIn F n P (Exit.then (zkm F n P c Q) Q) a w):zkm F n P c Q a w:=fun b k cs hro hb hr=>by
 obtain ⟨e,a₁,w₁,hq,harr⟩:=h b (.inLoop c :: k) cs hro hb hr;cases e with
 | normal =>
  obtain ⟨e₂,a₂,w₂,hq₂,harr₂⟩:=hq b k cs hro hb hr;exact ⟨e₂,a₂,w₂,hq₂,.of_steps (StepsIn.trans harr (.one (fenced_calm hb hr rfl) stepR_inLoop)) harr₂⟩
 | exit id=>exact ⟨_,a₁,w₁,hq,.pass (x:=.inLoop c) rfl (fun _ _=>.inl (by simp)) harr⟩
 | goto l=>exact ⟨_,a₁,w₁,hq,.pass (x:=.inLoop c) rfl (fun _ _=>.inl (by simp)) harr⟩
 | ret=>exact ⟨_,a₁,w₁,hq,.pass (x:=.inLoop c) rfl (fun _ _=>.inl (by simp)) harr⟩
 | panic ch=>exact ⟨_,a₁,w₁,hq,.pass (x:=.inLoop c) rfl (fun _ _=>.inl (by simp)) harr⟩
 | outgrown=>exact ⟨_,a₁,w₁,hq,.pass (x:=.inLoop c) rfl (fun _ _=>.inl (by simp)) harr⟩
end
def KQ (F:Fence) (n:Nat) (P:Program) (c:Code) (Q:Exit→Act→World→Prop):List Pc→Exit→Act→World→Prop
 | []=>Q
 | .c p :: l=>Exit.then ((za6 c p).wpIn F n P (KQ F n P c Q l)) (KQ F n P c Q l)
 | .lp p :: l=>Exit.then (zkm F n P (kid 0 (za6 c p)) (KQ F n P c Q l)) (KQ F n P c Q l)
 | .eb id :: l=>Exit.inBlock id (KQ F n P c Q l)
 | .es :: l=>Exit.noGoto (KQ F n P c Q l)
section
variable {F:Fence} {n:Nat} {P:Program} {c:Code} {Q Q':Exit→Act→World→Prop}
theorem zep (hq:∀ e a w,Q e a w→Q' e a w):∀ (l:List Pc) (e:Exit) (a:Act) (w:World),KQ F n P c Q l e a w→KQ F n P c Q' l e a w
 | [],_,_,_,h=>hq _ _ _ h
 | .c p :: l,e,a,w,h=>by
  cases e with
  | normal=>exact wpIn_mono (show (za6 c p).wpIn F n P (KQ F n P c Q l) a w from h) (zep hq l)
  | _=>exact zep hq l _ a w h
 | .lp p :: l,e,a,w,h=>by
  cases e with
  | normal=>exact z53 (show zkm F n P (kid 0 (za6 c p)) (KQ F n P c Q l) a w from h) (zep hq l)
  | _=>exact zep hq l _ a w h
 | .eb id :: l,e,a,w,h=>by
  cases e with
  | exit id' =>
   have h:(if id'=id then KQ F n P c Q l .normal a w else KQ F n P c Q l (.exit id') a w):=h;show (if id'=id then KQ F n P c Q' l .normal a w else KQ F n P c Q' l (.exit id') a w)
   by_cases e:id'=id
   ·rw [if_pos e] at h ⊢;exact zep hq l _ a w h
   ·rw [if_neg e] at h ⊢;exact zep hq l _ a w h
  | _=>exact zep hq l _ a w h
 | .es :: l,e,a,w,h=>by
  cases e with
  | goto=>exact h.elim
  | _=>exact zep hq l _ a w h
theorem zqr:∀ (l:List Pc) (a:Act) (w:World),Q .ret a w→KQ F n P c Q l .ret a w
 | [],_,_,h=>h
 | .c _ :: l,a,w,h=>zqr l a w h
 | .lp _ :: l,a,w,h=>zqr l a w h
 | .eb _ :: l,a,w,h=>zqr l a w h
 | .es :: l,a,w,h=>zqr l a w h
end
def zuu (id:Nat):List Pc→Option (List Pc)
 | []=>none
 | .eb i :: l=>if Nat.beq i id then some l else zuu id l
 | _ :: l=>zuu id l
theorem zl4 {F:Fence} {n:Nat} {P:Program} {c:Code} {Q:Exit→Act→World→Prop} {id:Nat}:∀ {l l':List Pc} {a:Act} {w:World},zuu id l=some l'→KQ F n P c Q l' .normal a w→KQ F n P c Q l (.exit id) a w
 | [],_,_,_,h,_=>by cases h
 | .c _ :: l,_,_,_,h,k=>zl4 (l:=l) h k
 | .lp _ :: l,_,_,_,h,k=>zl4 (l:=l) h k
 | .es :: l,_,_,_,h,k=>zl4 (l:=l) h k
 | .eb i :: l,l',a,w,h,k=>by
  have h:(if Nat.beq i id then some l else zuu id l)=some l':=h;show (if id=i then KQ F n P c Q l .normal a w else KQ F n P c Q l (.exit id) a w);cases hb:Nat.beq i id with
  | true =>
   rw [hb] at h;cases h;rw [if_pos (Nat.eq_of_beq_eq_true hb).symm];exact k
  | false =>
   rw [hb] at h;rw [if_neg (fun e=>by rw [e,Nat.beq_refl] at hb;cases hb)];exact zl4 (l:=l) h k
inductive LR where
 | more (l:List Pc) (T:Tm) (S:St)
 | fin (r:Res)
noncomputable def zrr (E:Env) (P:Program) (n:Nat) (c:Code) (l:List Pc) (T:Tm) (S:St):Option LR:=bnd (zjv E P n (.code none c T []) S) fun r=>zk (zgb r.mks [])
 (match r.ex with
  | .normal=>some (.more l r.tm r.st)
  | .exit id=>bnd (zuu id l) fun l=>some (.more l r.tm r.st)
  | .ret=>some (.fin r)
  | .goto _=>none) none
noncomputable def zuv (b:Code):Bool:=match b with
 | .seq (.region _ ops false) _=>(match zls ops.toList with
  | some _=>true
  | none=>false)
 | _=>false
noncomputable def zabm (E:Env) (P:Program) (n:Nat) (c:Code) (p:List Nat) (l:List Pc) (T:Tm) (S:St):Option LR:=match c with
 | .seq _ _=>some (.more (.c (0 :: p) :: .c (1 :: p) :: l) T S)
 | .cond x _ _=>bnd (opd T x) fun v=>bnd (zvz v) fun b=>some (.more (.c ((match b with
  | true=>0
  | false=>1) :: p) :: l) T S)
 | .block id _=>some (.more (.c (0 :: p) :: .eb id :: l) T S)
 | .scope _=>some (.more (.c (0 :: p) :: .es :: l) T S)
 | .loop b=>(match zuv b with
  | true=>zrr E P n (.loop b) l T S
  | false=>some (.more (.lp p :: l) T S))
 | c=>zrr E P n c l T S
noncomputable def z55 (E:Env) (P:Program) (n:Nat) (c:Code) (l:List Pc) (T:Tm) (S:St):Option LR:=match l with
 | []=>some (.fin ⟨.normal,T,[],.undef,S⟩)
 | .c p :: l=>zabm E P n (za6 c p) p l T S
 | .lp p :: l=>some (.more (.c (0 :: p) :: .lp p :: l) T S)
 | .eb _ :: l=>some (.more l T S)
 | .es :: l=>some (.more l T S)
noncomputable def zrs (E:Env) (P:Program) (n:Nat) (c:Code):Nat→List Pc→Tm→St→Option LR
 | 0,l,T,S=>some (.more l T S)
 | k+1,l,T,S=>bnd (z55 E P n c l T S) fun q=>match q with
  | .more l T S=>zrs E P n c k l T S
  | .fin r=>some (.fin r)
def zht:List Pc→List Pc→Bool
 | [],[]=>true
 | .c p :: l,.c p' :: l'=>zgb p p' && zht l l'
 | .lp p :: l,.lp p' :: l'=>zgb p p' && zht l l'
 | .eb i :: l,.eb i' :: l'=>Nat.beq i i' && zht l l'
 | .es :: l,.es :: l'=>zht l l'
 | _,_=>false
theorem zj7:∀ {l l':List Pc},zht l l'=true→l=l'
 | [],[],_=>rfl
 | [],.c _ :: _,h=>by cases h
 | [],.lp _ :: _,h=>by cases h
 | [],.eb _ :: _,h=>by cases h
 | [],.es :: _,h=>by cases h
 | .c _ :: _,[],h=>by cases h
 | .lp _ :: _,[],h=>by cases h
 | .eb _ :: _,[],h=>by cases h
 | .es :: _,[],h=>by cases h
 | .c p :: l,.c p' :: l',h=>by
  have h:(zgb p p' && zht l l')=true:=h;rw [Bool.and_eq_true] at h;rw [zc7 h.1,zj7 h.2]
 | .lp p :: l,.lp p' :: l',h=>by
  have h:(zgb p p' && zht l l')=true:=h;rw [Bool.and_eq_true] at h;rw [zc7 h.1,zj7 h.2]
 | .eb i :: l,.eb i' :: l',h=>by
  have h:(Nat.beq i i' && zht l l')=true:=h;rw [Bool.and_eq_true] at h;rw [Nat.eq_of_beq_eq_true h.1,zj7 h.2]
 | .es :: l,.es :: l',h=>by
  have h:zht l l'=true:=h;rw [zj7 h]
 | .c _ :: _,.lp _ :: _,h=>by cases h
 | .c _ :: _,.eb _ :: _,h=>by cases h
 | .c _ :: _,.es :: _,h=>by cases h
 | .lp _ :: _,.c _ :: _,h=>by cases h
 | .lp _ :: _,.eb _ :: _,h=>by cases h
 | .lp _ :: _,.es :: _,h=>by cases h
 | .eb _ :: _,.c _ :: _,h=>by cases h
 | .eb _ :: _,.lp _ :: _,h=>by cases h
 | .eb _ :: _,.es :: _,h=>by cases h
 | .es :: _,.c _ :: _,h=>by cases h
 | .es :: _,.lp _ :: _,h=>by cases h
 | .es :: _,.eb _ :: _,h=>by cases h
noncomputable def zcs (E:Env) (P:Program) (n k:Nat) (c:Code) (l:List Pc) (T:Tm) (S:St) (l2:List Pc) (T2:Tm) (h2:Tr AO) (nx lo:Nat):Bool:=match zrs E P n c k l T S with
 | some (.more l' T' S')=>zht l' l2 && zgw T2.m T'.m && Nat.beq T2.sz T'.sz && zgx h2 S'.heap && Nat.beq nx S'.next && Nat.blt S'.t (zm nx) && Nat.blt S'.w (zm nx) && Nat.beq (Nat.land S'.w (Nat.sub (zm lo) 1)) 0 && Nat.ble lo nx
 | _=>false
noncomputable def ziw (E:Env) (P:Program) (n k:Nat) (c:Code) (l:List Pc) (T:Tm) (S:St) (φ:Res→Bool):Bool:=match zrs E P n c k l T S with
 | some (.fin r)=>φ r
 | _=>false
section
variable {E:Env} {P:Program}
def zeh (P:Program) (E:Env) (c:Code) (Φ:Res→Prop) (l:List Pc) (T:Tm) (S:St):Prop:=∃ r,Lcl S r.st∧(∀ (T':Nat→Prop) (ρ:Rho) (w:World) (a:Act) (roC:Option Nat) (n:Nat),Pre E P T' ρ S w T a→(∀ n,bit r.st.t n→T' n)→zbl ρ S.next r.st.next→za9 ρ [] a.defers→ze9 ρ none roC →
   KQ (FV roC) n P c (za4 P T' ρ S w r) l .normal a w)∧Φ r
def LR.Is (P:Program) (E:Env) (c:Code) (Φ:Res→Prop):LR→Prop
 | .more l T S=>zeh P E c Φ l T S
 | .fin r=>Φ r
noncomputable def zadd (c:Code):Bool:=match c with
 | .loop _=>false
 | _=>true
theorem zff {c:Code} {Φ:Res→Prop} {T:Tm} {S:St} (hc:zadd c=true) (h:zeh P E c Φ [.c []] T S):Good P E Φ c T S:=by
 obtain ⟨r,h1,h2,h3⟩:=h;refine ⟨r,⟨h1,0,fun T' ρ w a roC n k1 k2 k3 k4 k5=>?_⟩,h3⟩;have q:c.wpIn (FV roC) n P (za4 P T' ρ S w r) a w:=h2 T' ρ w a roC n k1 k2 k3 k4 k5;cases c with
 | loop b=>cases hc
 | _=>exact q
theorem z8m {c:Code} {Φ:Res→Prop} {l:List Pc} {T T2:Tm} {S S2:St} (h:zeh P E c Φ l T2 S2) (hT:∀ t v,Tr.get T2.m t=some v→Tr.get T.m t=some v) (hs:T2.sz=T.sz) (hh:∀ n o,S2.get n=some o→S.get n=some o) (hn:S2.next=S.next)
  (ht:∀ n,bit S.t n→bit S2.t n) (hw:∀ n,bit S.w n→bit S2.w n) (hwt:∀ n,bit S2.w n→bit S2.t n):zeh P E c Φ l T S:=by
 obtain ⟨r,hl,hk,h1⟩:=h;have hl2:Lcl S r.st:=⟨by rw [← hn];exact hl.next,fun n q=>hl.t n (ht n q),fun n q=>hl.w n (hw n q),fun n o q ho=>by
   obtain ⟨o',ho'⟩:=hl.live n o (by rw [hn];exact q) ho;exact ⟨o',hh n o' ho'⟩,fun n q1 q2=>hl.new n (by rw [hn];exact q1) q2,fun n o q ho=>hh n o (hl.keep n o q ho),fun _ n q=>hl.wt hwt n q⟩
 refine ⟨r,hl2,fun T' ρ w a roC n h hT' hf hm hro=>?_,h1⟩;have hpre:Pre E P T' ρ S2 w T2 a:=⟨h.env,⟨fun n o q ho=>h.fit.obj n o q (hh n o ho),fun x y o o' L L' q1 q2 ho ho'=>h.fit.inj x y o o' L L' q1 q2 (hh x o ho) (hh y o' ho')⟩,fun t v q=>h.tmp t v (hT t v q),by rw [h.size,hs]⟩
 refine zep (fun e a' w' q=>⟨q.ex,?_,q.size⟩) _ _ _ _ (hk T' ρ w a roC n hpre hT' (by rw [hn];exact hf) hm hro);obtain ⟨ρ',s1,s2,s3⟩:=q.step;refine ⟨ρ',⟨fun x hx=>s1.old x (by rw [hn];exact hx),s1.fit,fun x o L q1 q2 ho hL=>?_,fun b hb hno=>s1.frame b hb fun x o L q1 q2 ho hL=>hno x o L q1 q2 (hh x o ho) hL,s1.size,hl2,s1.rest⟩,s2,s3⟩
 rcases s1.fresh x o L (by rw [hn];exact q1) q2 ho hL with g | ⟨y,o',L',g1,g2,g3,g4⟩
 ·exact .inl g
 ·exact .inr ⟨y,o',L',g1,g2,hh y o' g3,g4⟩
theorem zdi {c:Code} {Φ:Res→Prop} {l l':List Pc} {T:Tm} {S:St} (h:zeh P E c Φ l' T S) (hk:∀ (F:Fence) (n:Nat) (Q:Exit→Act→World→Prop) (a:Act) (w:World) (T':Nat→Prop) (ρ:Rho),Pre E P T' ρ S w T a→KQ F n P c Q l' .normal a w→KQ F n P c Q l .normal a w):zeh P E c Φ l T S:=by
 obtain ⟨r,h1,h2,h3⟩:=h;exact ⟨r,h1,fun T' ρ w a roC n k1 k2 k3 k4 k5=>hk _ _ _ _ _ T' ρ k1 (h2 T' ρ w a roC n k1 k2 k3 k4 k5),h3⟩
theorem zei (hE:zaq E P) (hih:∀ n,zb3 P E (zjv E P n)) {c:Code} {Φ:Res→Prop} {n:Nat} {p:List Nat} {l:List Pc} {T:Tm} {S:St} {q:LR} (hr:zrr E P n (za6 c p) l T S=some q)
  (h:LR.Is P E c Φ q):zeh P E c Φ (.c p :: l) T S:=by
 unfold zrr at hr;obtain ⟨r1,h1,hr⟩:=zd hr;obtain ⟨h2,hr⟩:=zf hr;have h2:=zc7 h2;obtain ⟨g1,m,g2⟩:=hih n _ _ _ h1;have go:∀ (l':List Pc),zeh P E c Φ l' r1.tm r1.st→(∀ (F:Fence) (n:Nat) (Q:Exit→Act→World→Prop) (e:Exit) (a:Act) (w:World),zwd r1.ex e→KQ F n P c Q l' .normal a w→KQ F n P c Q l e a w)→zeh P E c Φ (.c p :: l) T S:=fun l' hl hx=>by
  obtain ⟨r,k1,k2,k3⟩:=hl;refine ⟨r,g1.trans k1,fun T' ρ w a roC n h hT hf hm hro=>?_,k3⟩;show (za6 c p).wpIn (FV roC) n P (KQ (FV roC) n P c (za4 P T' ρ S w r) l) a w;refine wpIn_mono (g2 T' ρ w a roC n h (fun q hq=>hT q (k1.t q hq)) (fun q q1 q2=>hf q q1 (Nat.lt_of_lt_of_le q2 k1.next)) hm hro).wp fun e a1 w1 z=>?_
  obtain ⟨ρ1,p1,p2,p3,p4,p5⟩:=z.next hE k1 hf hro;rw [h2] at p3;exact hx _ _ _ _ _ _ z.ex (zep (fun e a w=>p5 e a w) _ _ _ _ (k2 T' ρ1 w1 a1 roC n p1 hT p2 p3 p4))
 cases hx:r1.ex with
 | normal =>
  rw [hx] at hr;cases hr;refine go l h fun F n Q e a w he hk=>?_
  rw [hx] at he;cases e<;>first | exact hk | exact he.elim
 | exit id =>
  rw [hx] at hr;obtain ⟨l',h4,hr⟩:=zd hr;cases hr;refine go l' h fun F n Q e a w he hk=>?_
  rw [hx] at he;cases e with
  | exit id' =>
   have he:id=id':=he;subst he;exact zl4 h4 hk
  | _=>exact he.elim
 | ret =>
  rw [hx] at hr;cases hr;refine ⟨r1,g1,fun T' ρ w a roC n h hT hf hm hro=>?_,h⟩;show (za6 c p).wpIn (FV roC) n P (KQ (FV roC) n P c (za4 P T' ρ S w r1) l) a w;refine wpIn_mono (g2 T' ρ w a roC n h hT hf hm hro).wp fun e a1 w1 z=>?_
  have he:=z.ex;rw [hx] at he;cases e with
  | ret=>exact zqr _ _ _ z
  | _=>exact he.elim
 | goto =>
  rw [hx] at hr;cases hr
theorem zaa3 (hE:zaq E P) (hih:∀ n,zb3 P E (zjv E P n)) {c:Code} {Φ:Res→Prop} {n:Nat} {p:List Nat} {l:List Pc} {T:Tm} {S:St} {q:LR} (hr:zabm E P n (za6 c p) p l T S=some q)
  (h:LR.Is P E c Φ q):zeh P E c Φ (.c p :: l) T S:=by
 have h0:za6 c (0 :: p)=kid 0 (za6 c p):=rfl;have h1:za6 c (1 :: p)=kid 1 (za6 c p):=rfl;cases hc:za6 c p with
 | seq x y =>
  rw [hc] at hr h0 h1;cases hr;refine zdi h fun F n Q a w T' ρ _ k=>?_
  have k:(za6 c (0 :: p)).wpIn F n P (Exit.then ((za6 c (1 :: p)).wpIn F n P (KQ F n P c Q l)) (KQ F n P c Q l)) a w:=k;rw [h0,h1] at k;show (za6 c p).wpIn F n P (KQ F n P c Q l) a w;rw [hc];exact wpIn_seq k
 | cond x y z =>
  rw [hc] at hr h0 h1;have hr:(bnd (opd T x) fun v=>bnd (zvz v) fun b=>some (LR.more (.c ((match b with
   | true=>0
   | false=>1) :: p) :: l) T S))=some q:=hr
  obtain ⟨v,e1,hr⟩:=zd hr;obtain ⟨b,e2,hr⟩:=zd hr;cases hr;refine zdi h fun F n Q a w T' ρ hp k=>?_
  have hv:a.eval x = .bool b:=by
   have q:=zr hp e1;cases v with
   | bool b'=>cases e2;exact q
   | _=>cases e2
  show (za6 c p).wpIn F n P (KQ F n P c Q l) a w;rw [hc];refine wpIn_cond (t:=b) hv ?_
  cases b with
  | true =>
   have k:(za6 c (0 :: p)).wpIn F n P (KQ F n P c Q l) a w:=k;rw [h0] at k;exact k
  | false =>
   have k:(za6 c (1 :: p)).wpIn F n P (KQ F n P c Q l) a w:=k;rw [h1] at k;exact k
 | block id x =>
  rw [hc] at hr h0;cases hr;refine zdi h fun F n Q a w T' ρ _ k=>?_
  have k:(za6 c (0 :: p)).wpIn F n P (Exit.inBlock id (KQ F n P c Q l)) a w:=k;rw [h0] at k;show (za6 c p).wpIn F n P (KQ F n P c Q l) a w;rw [hc];exact wpIn_block k
 | scope x =>
  rw [hc] at hr h0;cases hr;refine zdi h fun F n Q a w T' ρ _ k=>?_
  have k:(za6 c (0 :: p)).wpIn F n P (Exit.noGoto (KQ F n P c Q l)) a w:=k;rw [h0] at k;show (za6 c p).wpIn F n P (KQ F n P c Q l) a w;rw [hc];exact zuk k
 | loop b =>
  rw [hc] at hr h0;cases hb:zuv b with
  | true =>
   have hr:(match zuv b with
    | true=>zrr E P n (.loop b) l T S
    | false=>some (.more (.lp p :: l) T S))=some q:=hr
   rw [hb] at hr;exact zei hE hih (by rw [hc];exact hr) h
  | false =>
   have hr:(match zuv b with
    | true=>zrr E P n (.loop b) l T S
    | false=>some (.more (.lp p :: l) T S))=some q:=hr
   rw [hb] at hr;cases hr;refine zdi h fun F n Q a w T' ρ _ k=>?_
   have k:zkm F n P (kid 0 (za6 c p)) (KQ F n P c Q l) a w:=k;rw [hc] at k;show (za6 c p).wpIn F n P (KQ F n P c Q l) a w;rw [hc];exact zaa2 k
 | skip=>exact zei hE hih (by rw [hc] at hr ⊢;exact hr) h
 | region=>exact zei hE hih (by rw [hc] at hr ⊢;exact hr) h
 | rangeFunc=>exact zei hE hih (by rw [hc] at hr ⊢;exact hr) h
 | exit=>exact zei hE hih (by rw [hc] at hr ⊢;exact hr) h
 | label=>exact zei hE hih (by rw [hc] at hr ⊢;exact hr) h
 | goto=>exact zei hE hih (by rw [hc] at hr ⊢;exact hr) h
 | ret=>exact zei hE hih (by rw [hc] at hr ⊢;exact hr) h
 | refuse=>exact zei hE hih (by rw [hc] at hr ⊢;exact hr) h
theorem zaa4 (hE:zaq E P) (hih:∀ n,zb3 P E (zjv E P n)) {c:Code} {Φ:Res→Prop} {n:Nat}:∀ {l:List Pc} {T:Tm} {S:St} {q:LR},z55 E P n c l T S=some q →
  LR.Is P E c Φ q→zeh P E c Φ l T S
 | [],T,S,q,hr,h=>by
  cases hr;exact ⟨_,.refl _,fun T' ρ w a roC n k1 k2 k3 k4 k5=>za4.here k1 k4 (by trivial) rfl rfl rfl,h⟩
 | .c p :: l,T,S,q,hr,h=>zaa3 hE hih hr h
 | .lp p :: l,T,S,q,hr,h=>by
  cases hr;exact zdi h fun F n Q a w T' ρ _ k=>z54 k
 | .eb _ :: l,T,S,q,hr,h=>by
  cases hr;exact zdi h fun F n Q a w T' ρ _ k=>k
 | .es :: l,T,S,q,hr,h=>by
  cases hr;exact zdi h fun F n Q a w T' ρ _ k=>k
theorem zwl (hE:zaq E P) (hih:∀ n,zb3 P E (zjv E P n)) {c:Code} {Φ:Res→Prop} {n:Nat}:∀ {k:Nat} {l:List Pc} {T:Tm} {S:St} {q:LR},zrs E P n c k l T S=some q →
  LR.Is P E c Φ q→zeh P E c Φ l T S
 | 0,l,T,S,q,hr,h=>by cases hr;exact h
 | k+1,l,T,S,q,hr,h=>by
  have hr:(bnd (z55 E P n c l T S) fun q=>match q with
   | .more l T S=>zrs E P n c k l T S
   | .fin r=>some (.fin r))=some q:=hr
  obtain ⟨q1,h1,hr⟩:=zd hr;refine zaa4 hE hih h1 ?_
  cases q1 with
  | more l1 T1 S1=>exact zwl hE hih (show zrs E P n c k l1 T1 S1=some q from hr) h
  | fin r =>
   cases hr;exact h
variable (hN:zb7 P) (hE:zaq E P) (hm:P.follows .mixedOrders=true) (hTab:ziu P E)
include hN hE hm hTab
theorem za2 {c:Code} {Φ:Res→Prop} {n k:Nat} {l l2:List Pc} {T:Tm} {S:St} {T2:Tm} {h2:Tr AO} {nx lo:Nat} (hp:zcs E P n k c l T S l2 T2 h2 nx lo=true) (h:zeh P E c Φ l2 T2 (zcf h2 nx lo)):zeh P E c Φ l T S:=by
 unfold zcs at hp
 split at hp
 ·rename_i l' T' S' hq
  simp only [Bool.and_eq_true] at hp;obtain ⟨⟨⟨⟨⟨⟨⟨⟨p0,p1⟩,p2⟩,p3⟩,p4⟩,p5⟩,p6⟩,p7⟩,p8⟩:=hp;have p0:=zj7 p0;subst p0;refine zwl hE (fun n=>zjb hN hE (zj2 hE hN hm) hTab n) hq (z8m h (zdy p1) (Nat.eq_of_beq_eq_true p2) (fun x o ho=>?_) (Nat.eq_of_beq_eq_true p4) (fun x hx=>?_) (fun x hx=>?_) fun x hx=>?_)
  ·rw [St.get_eq] at ho ⊢;exact zdz p3 _ _ ho
  ·exact zcw.2 (zdv p5 hx)
  ·refine zfd.2 ⟨?_,zdv p6 hx⟩
   rcases Nat.lt_or_ge x lo with hc | hc
   ·exact absurd hx (zo4 p7 hc)
   ·exact hc
  ·exact zcw.2 (zfd.1 hx).2
 ·cases hp
theorem zej {c:Code} {n k:Nat} {l:List Pc} {T:Tm} {S:St} {φ:Res→Bool} (hp:ziw E P n k c l T S φ=true):zeh P E c (fun r=>φ r=true) l T S:=by
 unfold ziw at hp
 split at hp
 ·rename_i r hq
  exact zwl hE (fun n=>zjb hN hE (zj2 hE hN hm) hTab n) hq hp
 ·cases hp
end
theorem z22 {res:Nat} {r:Res} (hp:zc2 res r=true):zcc res r:=by
 unfold zc2 at hp;simp only [Bool.and_eq_true] at hp;obtain ⟨⟨p1,p2⟩,p3⟩:=hp;refine ⟨?_,zc7 p2,?_⟩
 ·cases hx:r.ex with
  | normal=>exact .inl rfl
  | ret=>exact .inr rfl
  | _=>rw [hx] at p1;cases p1
 ·cases hg:r.tm.get res with
  | none=>rw [hg] at p3;cases p3
  | some v =>
   rw [hg] at p3;cases v with
   | bool b=>have p3:b=true:=p3;rw [p3]
   | _=>cases p3
theorem zgp {E:Env} {P:Program} {c:Code} {res:Nat} {T:Tm} {S:St} (h:Good P E (fun r=>zc2 res r=true) c T S):Good P E (zcc res) c T S :=
 let ⟨r,h1,h2⟩:=h
 ⟨r,h1,z22 h2⟩
noncomputable def z19:List (Nat × AO)→Tr AO→Tr AO
 | [],t=>t
 | p :: l,t=>z19 l (Tr.put 24 p.1 (some p.2) t)
noncomputable def zo6 (n0:Nat) (S:St):List (Nat × AO)→Bool
 | []=>true
 | p :: l=>zrd (some p.2) (S.get p.1) && Nat.ble n0 p.1 && Nat.blt p.1 S.next && zo6 n0 S l
noncomputable def zrt (n0 nx:Nat) (rs:List (Nat × AV)) (hres:List (Nat × AO)) (r:Res):Bool:=zfe n0 nx rs r && zo6 n0 r.st hres
noncomputable def zqs (S:St) (nx:Nat) (hres:List (Nat × AO)):St:=⟨z19 hres S.heap,nx,Nat.lor S.t (Nat.sub (zm nx) 1),Nat.lor S.w (Nat.shiftLeft (Nat.sub (zm (Nat.sub nx S.next)) 1) S.next)⟩
noncomputable def recM (args0:List AV) (h0:Tr AO) (n0 nx:Nat) (v:AV) (hres:List (Nat × AO)):List AV→St→Option Res:=fun args S=>zk (zfq args args0 && zgx h0 S.heap && Nat.ble S.next n0 && Nat.ble n0 nx) (fcN S.next fun _=>some ⟨.normal,⟨.leaf,0⟩,[],v,zqs S nx hres⟩) none
theorem zuw:∀ {l:List (Nat × AO)} {t:Tr AO} {x:Nat} {o:AO},Tr.get (z19 l t) x=some o→(x,o)∈l∨Tr.get t x=some o
 | [],t,x,o,h=>.inr h
 | p :: l,t,x,o,h=>by
  rcases zuw (l:=l) h with h | h
  ·exact .inl (by simp [h])
  ·rcases Tr.get_put _ _ _ _ _ _ h with ⟨h1,h2⟩ | ⟨_,h2⟩
   ·cases h2;subst h1;exact .inl (by simp)
   ·exact .inr h2
theorem zsi {n0:Nat} {S:St}:∀ {l:List (Nat × AO)},zo6 n0 S l=true→∀ p∈l,S.get p.1=some p.2∧n0≤p.1∧p.1 < S.next
 | [],_,p,hp=>by cases hp
 | q :: l,h,p,hp=>by
  have h:(zrd (some q.2) (S.get q.1) && Nat.ble n0 q.1 && Nat.blt q.1 S.next && zo6 n0 S l)=true:=h;simp only [Bool.and_eq_true] at h;obtain ⟨⟨⟨h1,h2⟩,h3⟩,h4⟩:=h
  rcases List.mem_cons.1 hp with rfl | hp
  ·refine ⟨?_,Nat.le_of_ble_eq_true h2,Nat.le_of_ble_eq_true h3⟩
   unfold zrd at h1;simp only at h1
   split at h1
   ·rename_i v' e;rw [e,z4d h1]
   ·cases h1
  ·exact zsi h4 p hp
section
variable {E:Env} {P:Program}
theorem zade (hE:zaq E P) {f:Nat} {fn:Func} {c:Code} {args0:List AV} {h0:Tr AO} {n0 nx:Nat} {v:AV} {rs:List (Nat × AV)} {hres:List (Nat × AO)} (hfn:P.funcs[f]? = some fn) (hc:fn.body=some c) (hargs:args0.length≤fn.ntmps) (hrs:fn.results.toList=rs.map fun p=>.tmp p.1)
  (hv:v=oneOf (rs.map (·.2))) (h:Good P E (fun r=>zrt n0 nx rs hres r=true) c ⟨zek args0 0 .leaf,fn.ntmps⟩ ⟨h0,n0,0,0⟩) {E':Env} {args:List AV} {S:St} {r:Res} (hr:recM args0 h0 n0 nx v hres args S=some r) :
  Lcl S r.st∧zc0 P E' S r (.call f args):=by
 unfold recM at hr;obtain ⟨hck,hr⟩:=zf hr;rw [zan] at hr;cases hr;simp only [Bool.and_eq_true] at hck;obtain ⟨⟨⟨q1,q2⟩,q3⟩,q4⟩:=hck;have q1:=zeg _ _ q1;subst q1;have q2:=zdz q2;have q3:S.next≤n0:=Nat.le_of_ble_eq_true q3;have q4:n0≤nx:=Nat.le_of_ble_eq_true q4;obtain ⟨r1,⟨g1,m,g2⟩,hend⟩:=h;unfold zrt at hend;rw [Bool.and_eq_true] at hend;obtain ⟨hend,z8⟩:=hend;unfold zfe at hend;simp only [Bool.and_eq_true] at hend;obtain ⟨⟨⟨⟨⟨⟨z1,z2⟩,z3⟩,z4⟩,z5⟩,z6⟩,z7⟩:=hend;have z2:=zc7 z2;have z3:=zo5 z3;have z7:r1.st.next≤nx:=Nat.le_of_ble_eq_true z7;have z8:=zsi z8;have hget:∀ x o,(zqs S nx hres).get x=some o→((x,o)∈hres)∨S.get x=some o:=fun x o ho=>by
  rw [St.get_eq] at ho ⊢;exact zuw ho
 have hnew:∀ x,S.next≤x→x < nx→bit (zqs S nx hres).w x:=fun x h1 h2=>zg.2 (.inr (zfd.2 ⟨h1,h2⟩))
 have hl:Lcl S (zqs S nx hres):=⟨Nat.le_trans q3 q4,fun x hx=>zg.2 (.inl hx),fun x hx=>zg.2 (.inl hx),fun x o hx ho=>by
   have hx:x < S.next∨nx≤x:=hx
   rcases hget x o ho with hm | hm
   ·obtain ⟨_,k2,k3⟩:=z8 _ hm
    have k2:n0≤x:=k2;have k3:x < r1.st.next:=k3;omega
   ·exact ⟨o,hm⟩,fun x h1 h2=>⟨hnew x h1 h2,zg.2 (.inr (zcw.2 h2))⟩,
  fun x o hx ho=>by
   rcases hget x o ho with hm | hm
   ·obtain ⟨_,k2,k3⟩:=z8 _ hm
    have k2:n0≤x:=k2;have k3:x < r1.st.next:=k3;exact absurd (hnew x (Nat.le_trans q3 k2) (Nat.lt_of_lt_of_le k3 z7)) hx
   ·exact hm,fun hwt x hx=>by
   rcases zg.1 hx with hx | hx
   ·exact zg.2 (.inl (hwt x hx))
   ·exact zg.2 (.inr (zcw.2 (zfd.1 hx).2))⟩
 refine ⟨hl,⟨fn,c,hfn,hc⟩,fun T ρ w vs hf hT hfr hvs=>callsIn_wide (n:=0) |>.1 ?_⟩;have hTn:∀ x,x < nx→T x:=fun x hx=>hT x (zg.2 (.inr (zcw.2 hx)))
 have hfit:Fit ρ ⟨h0,n0,0,0⟩ T w:=⟨fun x o hx ho=>hf.obj x o hx (by rw [St.get_eq] at ho ⊢;exact q2 _ _ ho),fun x y o o' L L' hx hy ho ho'=>hf.inj x y o o' L L' hx hy (by rw [St.get_eq] at ho ⊢;exact q2 _ _ ho) (by rw [St.get_eq] at ho' ⊢;exact q2 _ _ ho')⟩
 have hfree:∀ x,S.next≤x→x < nx→ρ x=none:=hfr;obtain ⟨u1,u2⟩:=zwg hvs hargs;have hfree2:zbl ρ (⟨h0,n0,0,0⟩:St).next r1.st.next:=fun x x1 x2=>hfree x (Nat.le_trans q3 x1) (Nat.lt_of_lt_of_le x2 z7)
 have q:=g2 T ρ w { tmps:=vs ++ Array.replicate (fn.ntmps - vs.size) undef,defers:=[] } none 0 ⟨hE,hfit,u1,u2⟩ (fun x hx=>hTn x (zdv z5 hx)) hfree2 rfl rfl;have hleave:zgl E fn r1=some ⟨.normal,r1.tm,[],v,r1.st⟩:=by
  unfold zgl;rw [z2,hrs];show zfp E r1.tm (rs.map fun p=>.tmp p.1) r1.st [] _=_;rw [zj3 z3,hv];simp
 obtain ⟨k1,k2⟩:=zs6 hE hleave;refine callsIn_of_wp_marks (F:=FV none) hfn hc trivial (wpIn_mono q.wp fun e a' w' z=>?_) rfl;obtain ⟨ρ',s1,s2,s3⟩:=z.step;have fin:LeavesInM (FV none) 0 P fn a'.tmps (fun e w'=>∃ V ρ',e = .returned V∧Stp ρ S T w ρ' (zqs S nx hres) w'∧RV ρ' v V) a'.defers .returning w' :=
  k2 T ρ' w' a'.tmps a'.defers _ _ _ s1.fit s2 (fun x hx=>hTn x (zdv z5 hx)) s3 fun V w2 v1 v2=>by
   have st:Stp ρ ⟨h0,n0,0,0⟩ T w ρ' r1.st w2:=s1.trans v2;have hold:∀ x,bit r1.st.w x→ρ x=none:=fun x hw=>by
    have h1:n0≤x:=by
     rcases Nat.lt_or_ge x n0 with hc | hc
     ·exact absurd hw (zo4 z4 hc)
     ·exact hc
    exact hfree x (Nat.le_trans q3 h1) (zdv z6 hw)
   have hblock:∀ b,b < w.heap.size→w2.heap[b]? = w.heap[b]?:=fun b hb=>st.frame b hb fun x o L hx hw ho hL=>by
    rw [hold x hw] at hL;cases hL
   have hsub:Sub ρ ρ':=st.sub hfree2;have hsame:∀ x o,T x→S.get x=some o→ρ' x=ρ x∧∃ L,ρ x=some L∧zcn ρ L w.heap[L.b]? o:=fun x o hx ho=>by
    obtain ⟨L,e1,e2⟩:=hf.obj x o hx ho;refine ⟨st.old x ?_,L,e1,e2⟩
    rcases Nat.lt_or_ge x S.next with hc | hc
    ·exact .inl (Nat.lt_of_lt_of_le hc q3)
    ·rcases Nat.lt_or_ge x nx with hd | hd
     ·rw [hfree x hc hd] at e1;cases e1
     ·exact .inr (Nat.le_trans z7 hd)
   have hfresh:∀ x o L,(x,o)∈hres→ρ' x=some L→w.heap.size≤L.b:=fun x o L hm hL=>by
    obtain ⟨k1,k2,k3⟩:=z8 _ hm
    rcases st.fresh x o L k2 k3 k1 hL with h1 | ⟨y,o',L',h1,h2,h3,h4,h5⟩
    ·exact h1
    ·rw [hold y h2] at h4;cases h4
   refine ⟨V,ρ',rfl,⟨fun x hx=>?_,⟨fun x o hx ho=>?_,fun x y o o' L L' hx hy ho ho' hL hL' hb=>?_⟩,fun x o L h1 h2 ho hL=>?_,fun b hb _=>hblock b hb,st.size,hl,st.rest⟩,v1⟩
   ·have hx:x < S.next∨nx≤x:=hx
    refine st.old x ?_
    rcases hx with hx | hx
    ·exact .inl (Nat.lt_of_lt_of_le hx q3)
    ·exact .inr (Nat.le_trans z7 hx)
   ·rcases hget x o ho with hm | hm
    ·exact st.fit.obj x o hx (z8 _ hm).1
    ·obtain ⟨e,L,e1,e2⟩:=hsame x o hx hm
     exact ⟨L,by rw [e];exact e1,by rw [hblock _ e2.some];exact e2.mono hsub⟩
   ·rcases hget x o ho with hm | hm<;>rcases hget y o' ho' with hm' | hm'
    ·exact st.fit.inj x y o o' L L' hx hy (z8 _ hm).1 (z8 _ hm').1 hL hL' hb
    ·obtain ⟨e,L2,e1,e2⟩:=hsame y o' hy hm'
     rw [e,e1] at hL';cases hL';have h1:=hfresh x o L hm hL;have h2:=e2.some;omega
    ·obtain ⟨e,L2,e1,e2⟩:=hsame x o hx hm
     rw [e,e1] at hL;cases hL;have h1:=hfresh y o' L' hm' hL';have h2:=e2.some;omega
    ·obtain ⟨e,L2,e1,e2⟩:=hsame x o hx hm
     obtain ⟨e',L2',e1',e2'⟩:=hsame y o' hy hm';rw [e] at hL;rw [e'] at hL';exact hf.inj x y o o' L L' hx hy hm hm' hL hL' hb
   ·rcases hget x o ho with hm | hm
    ·exact .inl (hfresh x o L hm hL)
    ·obtain ⟨L2,e1,e2⟩:=hf.obj x o (hTn x h2) hm
     rw [hfree x h1 h2] at e1;cases e1
 have hz:=z.ex;cases e with
 | normal=>exact fin
 | ret=>exact fin
 | _=>cases hx:r1.ex<;>(rw [hx] at z1 hz;first | exact hz.elim | cases z1)
end
end Go.Proofs.YtnfdiohfojjnlaaGreat
