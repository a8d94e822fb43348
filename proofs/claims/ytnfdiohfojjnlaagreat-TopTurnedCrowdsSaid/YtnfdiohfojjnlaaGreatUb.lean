/-
  Plain: rows and circles: what becomes of each window's screw, and that a list is a circle, as the program sees it, just if it is one, as the reference counts.
-/
import Derived.Test.YtnfdiohfojjnlaaGreatUa
set_option maxRecDepth 200000
set_option maxHeartbeats 0
namespace Go.Proofs.YtnfdiohfojjnlaaGreat.Tu
def za1 (ks:List Int):Nat→List Int→List Int→Option (List Int) × Nat
 | n,s,[]=>(some s,n)
 | n,s,w :: row=>if zbs zbu ks s then (none,n) else za1 ks (n+1) (visit (upP zbu s) w.toNat) row
def zba (k w:Int):Int→List Int→Option Int
 | n,[]=>some n
 | n,x :: l=>if k < n+1 then none else zba k w (if x=w then 0 else n+1) l
theorem zoa (k w:Int):∀ (l m:List Int) (n:Int),zba k w n (l ++ m)=(zba k w n l).bind fun n'=>zba k w n' m
 | [],m,n=>rfl
 | x :: l,m,n=>by
  rw [List.cons_append,zba,zba]
  split
  ·rfl
  ·exact zoa k w l m _
theorem z3i (k w:Int):∀ (l:List Int) (n a:Int),0≤n→n≤k→zba k w n l=some a→0≤a∧a≤k
 | [],n,a,h0,h1,h=>by cases h;exact ⟨h0,h1⟩
 | x :: l,n,a,h0,h1,h=>by
  rw [zba] at h
  split at h
  ·cases h
  ·refine z3i k w l _ a ?_ ?_ h
   ·split<;>omega
   ·split<;>omega
theorem zpu {k w:Int}:∀ (l:List Int) (m n:Int) {a:Int},m≤n→zba k w n l=some a→∃ b,b≤a∧zba k w m l=some b
 | [],m,n,a,h,e=>by cases e;exact ⟨m,h,rfl⟩
 | x :: l,m,n,a,h,e=>by
  rw [zba] at e ⊢
  split at e
  ·cases e
  ·rw [if_neg (by omega)]
   by_cases hx:x=w
   ·rw [if_pos hx] at e ⊢;exact zpu l 0 0 (Int.le_refl _) e
   ·rw [if_neg hx] at e ⊢;exact zpu l (m+1) (n+1) (by omega) e
theorem z0c {k w:Int}:∀ (l:List Int) (n a:Int),w ∉ l→zba k w n l=some a→a=n+l.length
 | [],n,a,_,e=>by cases e;simp
 | x :: l,n,a,hw,e=>by
  rw [zba] at e
  split at e
  ·cases e
  ·have hx:¬ x=w:=fun h=>hw (by simp [h])
   rw [if_neg hx] at e;have:=z0c l _ a (fun h=>hw (by simp [h])) e;simp only [List.length_cons];omega
def zcb (w:Int):Int→List Int→Int
 | n,[]=>n
 | n,x :: l=>zcb w (if x=w then 0 else n+1) l
theorem zss {k w:Int}:∀ (l:List Int) (n a:Int),zba k w n l=some a→a=zcb w n l
 | [],n,a,e=>by cases e;rfl
 | x :: l,n,a,e=>by
  rw [zba] at e
  split at e
  ·cases e
  ·rw [zcb];exact zss l _ a e
theorem zst (w:Int):∀ (l m:List Int) (n:Int),zcb w n (l ++ m)=zcb w (zcb w n l) m
 | [],m,n=>rfl
 | x :: l,m,n=>by rw [List.cons_append,zcb,zcb];exact zst w l m _
theorem z3j (w:Int):∀ (l:List Int) (n:Int),0≤n→0≤zcb w n l
 | [],n,h=>h
 | x :: l,n,h=>by rw [zcb];exact z3j w l _ (by split<;>omega)
theorem zxf (w:Int):∀ (l:List Int) (m n:Int),w∈l→zcb w m l=zcb w n l
 | x :: l,m,n,h=>by
  rw [zcb,zcb]
  by_cases e:x=w
  ·rw [if_pos e,if_pos e]
  ·rw [if_neg e,if_neg e]
   exact zxf w l _ _ ((List.mem_cons.1 h).resolve_left fun h=>e h.symm)
def gap (k w:Int):Int→Bool→List Int→Bool
 | _,_,[]=>true
 | t,seen,x :: l=>if x=w then (if seen=true∧k < t+1 then false else gap k w 0 true l) else gap k w (t+1) seen l
theorem zvt (k w:Int):∀ (l m:List Int) (t:Int),gap k w t true (l ++ m)=(gap k w t true l && gap k w (zcb w t l) true m)
 | [],m,t=>by simp [gap,zcb]
 | x :: l,m,t=>by
  rw [List.cons_append,gap,gap,zcb]
  by_cases e:x=w
  ·rw [if_pos e,if_pos e,if_pos e]
   split
   ·rfl
   ·exact zvt k w l m 0
  ·rw [if_neg e,if_neg e,if_neg e];exact zvt k w l m _
theorem zsu (k w:Int):∀ (l m:List Int) (t:Int) (seen:Bool),w ∉ l→gap k w t seen (l ++ m)=gap k w (t+l.length) seen m
 | [],m,t,seen,_=>by simp
 | x :: l,m,t,seen,h=>by
  rw [List.cons_append,gap,if_neg (fun e=>h (by simp [e])),zsu k w l m _ seen (fun e=>h (by simp [e]))]
  congr 1
  simp only [List.length_cons];omega
theorem z0d {k w:Int}:∀ (l:List Int) (n:Int),k < n→¬ (gap k w n true l=true∧zcb w n l≤k)
 | [],n,h,⟨_,h2⟩=>by rw [zcb] at h2;omega
 | x :: l,n,h,⟨h1,h2⟩=>by
  rw [gap] at h1;rw [zcb] at h2
  by_cases e:x=w
  ·rw [if_pos e,if_pos ⟨rfl,by omega⟩] at h1;cases h1
  ·rw [if_neg e] at h1 h2
   exact z0d l (n+1) (by omega) ⟨h1,h2⟩
theorem zob {k w:Int} (hk0:0≤k):∀ (l:List Int) (n:Int),n≤k→((zba k w n l).isSome=true↔gap k w n true l=true∧zcb w n l≤k)
 | [],n,h=>by simp [zba,gap,zcb,h]
 | x :: l,n,h=>by
  rw [zba,gap,zcb]
  by_cases hk:k < n+1
  ·rw [if_pos hk]
   by_cases e:x=w
   ·rw [if_pos e,if_pos ⟨rfl,hk⟩];simp
   ·rw [if_neg e,if_neg e]
    simp only [Option.isSome_none,Bool.false_eq_true,false_iff];exact z0d l (n+1) hk
  ·rw [if_neg hk]
   by_cases e:x=w
   ·rw [if_pos e,if_pos e,if_neg (fun h=>hk h.2)]
    exact zob hk0 l 0 hk0
   ·rw [if_neg e,if_neg e]
    exact zob hk0 l (n+1) (by omega)
theorem zry {w:Int}:∀ {l:List Int},w∈l→∃ a b,l=a ++ w :: b∧w ∉ a
 | x :: l,h=>by
  by_cases e:x=w
  ·subst e;exact ⟨[],l,rfl,by simp⟩
  ·obtain ⟨a,b,h1,h2⟩:=zry ((List.mem_cons.1 h).resolve_left fun h=>e h.symm)
   exact ⟨x :: a,b,by rw [h1];rfl,fun hh=>by rcases List.mem_cons.1 hh with hh | hh;exact e hh.symm;exact h2 hh⟩
theorem zxg {k w:Int}:∀ (a m:List Int) (n:Int),w ∉ a→(zba k w n (a ++ m)).isSome=true→n+a.length≤k∨a=[]
 | [],m,n,_,_=>.inr rfl
 | x :: a,m,n,h,e=>by
  rw [List.cons_append,zba] at e
  split at e
  ·cases e
  ·rw [if_neg (fun hh=>h (by simp [hh]))] at e
   rcases zxg a m (n+1) (fun hh=>h (by simp [hh])) e with h1 | h1
   ·left;simp only [List.length_cons];omega
   ·left;subst h1;simp;omega
theorem zgt {k w:Int}:∀ (a m:List Int) (n:Int),w ∉ a→n+a.length≤k→zba k w n (a ++ m)=zba k w (n+a.length) m
 | [],m,n,_,_=>by simp
 | x :: a,m,n,h,e=>by
  simp only [List.length_cons] at e ⊢;rw [List.cons_append,zba,if_neg (by omega),if_neg (fun hh=>h (by simp [hh])),zgt a m (n+1) (fun hh=>h (by simp [hh])) (by omega)]
  congr 1
  omega
theorem zabe {k w:Int} (hk:1≤k) {c:List Int} (h:w∈c):(zba k w 0 (c ++ c)).isSome=true↔gap k w 0 false (c ++ c)=true:=by
 obtain ⟨a,b,rfl,ha⟩:=zry h;have e:a ++ w :: b ++ (a ++ w :: b)=a ++ (w :: (b ++ (a ++ w :: b))):=by simp
 rw [e];have hg:gap k w 0 false (a ++ w :: (b ++ (a ++ w :: b)))=gap k w 0 true (b ++ (a ++ w :: b)):=by
  rw [zsu k w a _ 0 false ha,gap,if_pos rfl,if_neg (by simp)]
 rw [hg]
 constructor
 ·intro hs
  have hl:(0:Int)+a.length+1≤k:=by
   rcases zxg a _ 0 ha hs with h1 | h1
   ·rw [zgt a _ 0 ha h1,zba] at hs
    split at hs
    ·cases hs
    ·omega
   ·subst h1;simp;omega
  rw [zgt a _ 0 ha (by omega),zba,if_neg (by omega),if_pos rfl] at hs;exact ((zob (by omega) _ 0 (by omega)).1 hs).1
 ·intro hs
  have hs2:=hs;rw [zvt,Bool.and_eq_true,zsu k w a _ _ true ha,gap,if_pos rfl] at hs2;have hb:0≤zcb w 0 b:=z3j w b 0 (by omega);have hle:zcb w 0 b+a.length+1≤k:=by
   by_cases hk2:k < zcb w 0 b+a.length+1
   ·rw [if_pos ⟨rfl,hk2⟩] at hs2;cases hs2.2
   ·omega
  rw [zgt a _ 0 ha (by omega),zba,if_neg (by omega),if_pos rfl];refine (zob (by omega) _ 0 (by omega)).2 ⟨hs,?_⟩;rw [zst,zst,zcb,if_pos rfl];omega
theorem zh0 {ks:List Int}:∀ (row:List Int) (m:Nat) (s t:List Int),s.length=ks.length→(∀ x∈row,0≤x)→(za1 ks m s row).1=some t→t.length=ks.length∧∀ i:Nat,i < ks.length→zba (ks.getD i 0) i (s.getD i 0) row=some (t.getD i 0)
 | [],m,s,t,hl,_,e=>by cases e;exact ⟨hl,fun i _=>rfl⟩
 | w :: row,m,s,t,hl,hw,e=>by
  unfold za1 at e
  by_cases hf:zbs zbu ks s=true
  ·rw [if_pos hf] at e;cases e
  rw [if_neg hf] at e;have hf':=zdk.1 (by simpa using hf);obtain ⟨h1,h2⟩:=zh0 row (m+1) _ t (by rw [zhz,zgh,hl]) (fun x hx=>hw x (by simp [hx])) e;refine ⟨h1,fun i hi=>?_⟩;rw [zba,if_neg (by have:=hf' i hi rfl;omega),← h2 i hi,zg5,zk6 zbu s i (by omega)];have h0:=hw w (by simp)
  congr 1
  by_cases e:w=(i:Int)
  ·rw [if_pos e,if_pos (by omega)]
  ·rw [if_neg e,if_neg (by omega)];rfl
theorem zkc {ks:List Int}:∀ (row:List Int) (m:Nat) (s:List Int),s.length=ks.length→(∀ x∈row,0≤x)→(za1 ks m s row).1=none→∃ i:Nat,i < ks.length∧zba (ks.getD i 0) i (s.getD i 0) row=none
 | [],m,s,hl,_,e=>by cases e
 | w :: row,m,s,hl,hw,e=>by
  unfold za1 at e
  by_cases hf:zbs zbu ks s=true
  ·unfold zbs at hf
   obtain ⟨i,hi,hd⟩:=List.any_eq_true.1 hf;refine ⟨i,by simpa using hi,?_⟩;rw [zba,if_pos (by simpa [zbu] using hd)]
  rw [if_neg hf] at e;have hf':=zdk.1 (by simpa using hf);obtain ⟨i,hi,h2⟩:=zkc row (m+1) _ (by rw [zhz,zgh,hl]) (fun x hx=>hw x (by simp [hx])) e;refine ⟨i,hi,?_⟩;rw [zba,if_neg (by have:=hf' i hi rfl;omega),← h2,zg5,zk6 zbu s i (by omega)];have h0:=hw w (by simp)
  congr 1
  by_cases e:w=(i:Int)
  ·rw [if_pos e,if_pos (by omega)]
  ·rw [if_neg e,if_neg (by omega)];rfl
theorem zoc {ks:List Int} {row:List Int} {m:Nat} {s:List Int} (hl:s.length=ks.length) (hw:∀ x∈row,0≤x):(za1 ks m s row).1.isSome=true↔∀ i:Nat,i < ks.length→(zba (ks.getD i 0) i (s.getD i 0) row).isSome=true:=by
 cases e:(za1 ks m s row).1 with
 | none =>
  simp only [Option.isSome_none,Bool.false_eq_true,false_iff];intro h;obtain ⟨i,hi,hn⟩:=zkc row m s hl hw e;have:=h i hi;rw [hn] at this;cases this
 | some t =>
  simp only [Option.isSome_some,true_iff];intro i hi;rw [(zh0 row m s t hl hw e).2 i hi];rfl
def zeroS (ks:List Int):List Int:=List.replicate ks.length 0
theorem zd8 (ks:List Int) (i:Nat):(zeroS ks).getD i 0=0:=by
 unfold zeroS;rw [List.getD_eq_getElem?_getD,List.getElem?_replicate]
 split<;>rfl
theorem zch (ks:List Int):(zeroS ks).length=ks.length:=by simp [zeroS]
theorem zeroS_st {ks:List Int} (v:TVal ks):zaj ks (zeroS ks)=true:=zi1 (zch ks) fun i hi=>by rw [zd8];have:=v.at_ i hi;omega
def circP (ks c:List Int):Bool:=(za1 ks 0 (zeroS ks) (c ++ c)).1.isSome && (List.range ks.length).all fun w=>c.contains (w:Int)
def z40 (ks c:List Int):Bool:=(List.range ks.length).all fun w=>gap (ks.getD w 0) w 0 false (c ++ c) && c.contains (w:Int)
theorem zab9 {ks c:List Int} (v:TVal ks) (hc:∀ x∈c,0≤x):circP ks c=z40 ks c:=by
 rw [Bool.eq_iff_iff];unfold circP z40;rw [Bool.and_eq_true,List.all_eq_true,List.all_eq_true,zoc (zch ks) (fun x hx=>by rcases List.mem_append.1 hx with h | h<;>exact hc x h)]
 constructor
 ·rintro ⟨h1,h2⟩ w hw
  have hw':w < ks.length:=by simpa using hw
  have hm:=h2 w hw;rw [Bool.and_eq_true];refine ⟨?_,hm⟩;have:=h1 w hw';rw [zd8] at this;exact (zabe (v.at_ w hw').1 (by simpa using hm)).1 this
 ·intro h
  refine ⟨fun i hi=>?_,fun w hw=>?_⟩
  ·have:=h i (by simpa using hi)
   rw [Bool.and_eq_true] at this;rw [zd8];exact (zabe (v.at_ i hi).1 (by simpa using this.2)).2 this.1
  ·have:=h w hw
   rw [Bool.and_eq_true] at this;exact this.2
theorem zk7 {ks s x:List Int}:x∈nxS ks s↔zbs zbu ks s=false∧∃ w,w < ks.length∧x=visit (upP zbu s) w:=by
 unfold nxS;cases h:zbs zbu ks s with
 | true=>simp
 | false =>
  simp only [Bool.false_eq_true,if_false,List.mem_map,List.mem_range,true_and];exact ⟨fun ⟨w,h1,h2⟩=>⟨w,h1,h2.symm⟩,fun ⟨w,h1,h2⟩=>⟨w,h1,h2.symm⟩⟩
def WinL (ks row:List Int):Prop:=∀ x∈row,0≤x∧x < ks.length
theorem z0e {ks:List Int}:∀ {row:List Int} {a:Nat} {s t:List Int},WinL ks row→(za1 ks a s row).1=some t→Wlk (nxS ks) row.length s t
 | [],a,s,t,_,h=>by cases h;rfl
 | w :: row,a,s,t,hw,h=>by
  unfold za1 at h
  by_cases hf:zbs zbu ks s=true
  ·rw [if_pos hf] at h;cases h
  rw [if_neg hf] at h;have h0:=hw w (by simp);refine ⟨_,zk7.2 ⟨by simpa using hf,w.toNat,by omega,rfl⟩,z0e (fun x hx=>hw x (by simp [hx])) h⟩
theorem z0f {ks:List Int} (v:TVal ks):∀ {m:Nat} {s t:List Int},zaj ks s=true→Wlk (nxS ks) m s t→zaj ks t=true
 | 0,s,t,h,hw=>by cases hw;exact h
 | m+1,s,t,h,⟨x,hx,hw⟩=>z0f v (ze0 v h x hx) hw
theorem z9c {a b:List Int} (hl:a.length=b.length) (h:∀ i,i < a.length→a.getD i 0=b.getD i 0):a=b:=by
 apply List.ext_getElem hl;intro i h1 h2;have:=h i h1;rw [List.getD_eq_getElem?_getD,List.getD_eq_getElem?_getD,List.getElem?_eq_getElem h1,List.getElem?_eq_getElem h2] at this;exact this
theorem zrz {ks s c:List Int} (_:TVal ks) (hs:zaj ks s=true) (hw:WinL ks c) (hc:c≠[]) {a:Nat} (h:(za1 ks a s c).1=some s):circP ks c=true:=by
 have hw0:∀ x∈c,0≤x:=fun x hx=>(hw x hx).1
 have hr:=(zh0 c a s s (zd7 hs) hw0 h).2;unfold circP;rw [Bool.and_eq_true,List.all_eq_true,zoc (zch ks) (fun x hx=>by rcases List.mem_append.1 hx with h | h<;>exact hw0 x h)];refine ⟨fun i hi=>?_,fun w hw'=>?_⟩
 ·have h2:zba (ks.getD i 0) i (s.getD i 0) (c ++ c)=some (s.getD i 0):=by rw [zoa,hr i hi];exact hr i hi
  obtain ⟨b,_,hb⟩:=zpu (k:=ks.getD i 0) (w:=i) (c ++ c) ((zeroS ks).getD i 0) (s.getD i 0) (by rw [zd8];exact (zi0 hs i hi).1) h2;rw [hb];rfl
 ·have hwl:w < ks.length:=by simpa using hw'
  by_cases hm:(w:Int)∈c
  ·simpa using hm
  ·have:=z0c c _ _ hm (hr w hwl)
   have:0 < c.length:=List.length_pos_iff.2 hc;omega
theorem zr0 {ks c:List Int} (v:TVal ks) (hw:WinL ks c) (h:circP ks c=true):∃ s,zaj ks s=true∧(za1 ks 0 (zeroS ks) c).1=some s∧(∀ a,(za1 ks a s c).1=some s)∧c≠[]:=by
 have hw0:∀ x∈c,0≤x:=fun x hx=>(hw x hx).1
 unfold circP at h;rw [Bool.and_eq_true,List.all_eq_true,zoc (zch ks) (fun x hx=>by rcases List.mem_append.1 hx with h | h<;>exact hw0 x h)] at h;obtain ⟨h1,h2⟩:=h;have hin:∀ w,w < ks.length→(w:Int)∈c:=fun w hw'=>by have:=h2 w (by simpa using hw');simpa using this
 have hr1:∀ i:Nat,i < ks.length→(zba (ks.getD i 0) i ((zeroS ks).getD i 0) c).isSome=true:=fun i hi=>by
  have:=h1 i hi;rw [zoa] at this;cases e:zba (ks.getD i 0) i ((zeroS ks).getD i 0) c with
  | none=>rw [e] at this;cases this
  | some b=>rfl
 cases e1:(za1 ks 0 (zeroS ks) c).1 with
 | none =>
  obtain ⟨i,hi,hn⟩:=zkc c 0 _ (zch ks) hw0 e1;have:=hr1 i hi;rw [hn] at this;cases this
 | some s =>
  obtain ⟨hl,hs⟩:=zh0 c 0 _ s (zch ks) hw0 e1;have hst:zaj ks s=true:=zi1 hl fun i hi=>z3i _ _ c _ _ (by rw [zd8];omega) (by rw [zd8];have:=v.at_ i hi;omega) (hs i hi)
  refine ⟨s,hst,rfl,fun a=>?_,fun hc=>?_⟩
  ·cases e2:(za1 ks a s c).1 with
   | none =>
    obtain ⟨i,hi,hn⟩:=zkc c a s hl hw0 e2;have:=h1 i hi;rw [zoa,hs i hi] at this;simp only [Option.bind_some,hn] at this;cases this
   | some t =>
    obtain ⟨hl2,ht⟩:=zh0 c a s t hl hw0 e2
    congr 1
    apply z9c (by omega);intro i hi;have hi':i < ks.length:=by omega
    rw [zss c _ _ (ht i hi'),zss c _ _ (hs i hi')];exact zxf _ c _ _ (hin i hi')
  ·subst hc
   have:=hin 0 (by have:=v.n1;omega);simp at this
def leS (s t:List Int):Prop:=s.length=t.length∧∀ i,s.getD i 0≤t.getD i 0
theorem leS.refl (s:List Int):leS s s:=⟨rfl,fun _=>Int.le_refl _⟩
theorem leS.trans {a b c:List Int} (h:leS a b) (k:leS b c):leS a c:=⟨h.1.trans k.1,fun i=>Int.le_trans (h.2 i) (k.2 i)⟩
theorem leS.zero {ks s:List Int} (h:zaj ks s=true):leS (zeroS ks) s:=⟨by rw [zch,zd7 h],fun i=>by
 rw [zd8]
 by_cases hi:i < ks.length
 ·exact (zi0 h i hi).1
 ·rw [List.getD_eq_getElem?_getD,List.getElem?_eq_none (by rw [zd7 h];omega)];exact Int.le_refl _⟩
theorem leS.up {s t:List Int} (h:leS s t) (p:Nat→Bool):leS (upP p s) (upP p t):=by
 refine ⟨by rw [zgh,zgh,h.1],fun i=>?_⟩
 by_cases hi:i < s.length
 ·rw [zk6 p s i hi,zk6 p t i (by rw [← h.1];exact hi)]
  have:=h.2 i
  split<;>omega
 ·rw [List.getD_eq_getElem?_getD,List.getElem?_eq_none (by rw [zgh];omega),List.getD_eq_getElem?_getD,List.getElem?_eq_none (by rw [zgh,← h.1];omega)]
  exact Int.le_refl _
theorem leS.visit {s t:List Int} (h:leS s t) (w:Nat):leS (Go.Proofs.YtnfdiohfojjnlaaGreat.Tu.visit s w) (Go.Proofs.YtnfdiohfojjnlaaGreat.Tu.visit t w):=by
 refine ⟨by rw [zhz,zhz,h.1],fun i=>?_⟩;rw [zg5,zg5]
 split
 ·exact Int.le_refl _
 ·exact h.2 i
theorem leS.full {ks s t:List Int} (h:leS s t) {p:Nat→Bool} (hf:zbs p ks t=false):zbs p ks s=false :=
 zdk.2 fun i hi hp=>by have:=zdk.1 hf i hi hp;have:=h.2 i;omega
theorem leS.lv {ks:List Int}:∀ (m:Nat) {s t:List Int},leS s t→Go.Proofs.YtnfdiohfojjnlaaGreat.Tu.lv (nxS ks) m t=true→Go.Proofs.YtnfdiohfojjnlaaGreat.Tu.lv (nxS ks) m s=true
 | 0,_,_,_,_=>rfl
 | m+1,s,t,h,hl=>by
  unfold Go.Proofs.YtnfdiohfojjnlaaGreat.Tu.lv at hl ⊢;obtain ⟨x,hx,hl⟩:=List.any_eq_true.1 hl;obtain ⟨hf,w,hw,rfl⟩:=zk7.1 hx;rw [List.any_eq_true];exact ⟨_,zk7.2 ⟨h.full hf,w,hw,rfl⟩,leS.lv m ((h.up zbu).visit w) hl⟩
theorem leS.safe {ks s t:List Int} (h:leS s t) (k:zcp (nxS ks) t):zcp (nxS ks) s:=fun m=>h.lv m (k m)
theorem z2p {α:Type} {nx:α→List α} {m:Nat} {s:α} (hm:1≤m) (h:Wlk nx m s s):zcp nx s:=by
 have:∀ k:Nat,lv nx (m * k) s=true∧∃ j,Wlk nx (m * k) s j∧j=s:=by
  intro k
  induction k with
  | zero=>exact ⟨rfl,s,rfl,rfl⟩
  | succ k ih =>
   obtain ⟨_,j,hj,rfl⟩:=ih;have:=hj.app h;rw [← Nat.mul_succ] at this;exact ⟨this.lv,j,this,rfl⟩
 intro n;refine zy9 s ?_ (this n).1;have:=Nat.mul_le_mul_right n hm;omega
theorem z0g {α:Type} {nx:α→List α}:∀ {m:Nat} {i j:α},Wlk nx m i j→∃ l:List α,l.length=m+1∧∀ a b:Nat,∀ (_:a≤b) (hb:b < l.length),Wlk nx (b - a) (l[a]'(by omega)) l[b]∧(a=0→l[a]'(by omega)=i)
 | 0,i,j,h=>⟨[i],rfl,fun a b hab hb=>by
   simp at hb;obtain rfl:b=0:=hb;obtain rfl:a=0:=by omega
   exact ⟨rfl,fun _=>rfl⟩⟩
 | m+1,i,j,⟨x,hx,h⟩=>by
  obtain ⟨l,h1,h2⟩:=z0g h;refine ⟨i :: l,by simp [h1],fun a b hab hb=>?_⟩;have hx0:=(h2 0 0 (Nat.le_refl _) (by omega)).2 rfl;cases b with
  | zero =>
   obtain rfl:a=0:=by omega
   exact ⟨rfl,fun _=>rfl⟩
  | succ b =>
   have hb':b < l.length:=by simpa using hb
   cases a with
   | zero =>
    refine ⟨?_,fun _=>rfl⟩;have:=(h2 0 b (by omega) hb').1;rw [hx0] at this;simp only [Nat.sub_zero] at this;exact ⟨x,hx,this⟩
   | succ a =>
    refine ⟨?_,fun e=>by omega⟩;have:=(h2 a b (by omega) hb').1;simpa [Nat.add_sub_add_right] using this
theorem z2q {ks s:List Int} (v:TVal ks) (hs:zaj ks s=true) (h:zcp (nxS ks) s):∃ t m,zaj ks t=true∧1≤m∧Wlk (nxS ks) m t t:=by
 have hp:=zc9 v.nn;obtain ⟨j,hj⟩:=zxb (h (zq ks).toNat);obtain ⟨l,h1,h2⟩:=z0g hj;have hst:∀ a (ha:a < l.length),zaj ks l[a]=true:=fun a ha=>by
  have h3:=(h2 0 a (by omega) ha)
  rw [h3.2 rfl] at h3;exact z0f v hs h3.1
 by_cases hn:l.Nodup
 ·have:=zxc v hn fun x hx=>by
   obtain ⟨a,ha,rfl⟩:=List.getElem_of_mem hx;exact hst a ha
  omega
 ·unfold List.Nodup at hn
  rw [List.pairwise_iff_getElem] at hn;simp only [Classical.not_forall] at hn;obtain ⟨a,b,ha,hb,hab,hne⟩:=hn;have e:l[a]=l[b]:=Classical.not_not.1 hne;have:=(h2 a b (by omega) hb).1;rw [← e] at this;exact ⟨l[a],b - a,hst a ha,by omega,this⟩
theorem z67 {ks:List Int} (v:TVal ks):zcp (nxS ks) (zeroS ks)↔∃ t m,zaj ks t=true∧1≤m∧Wlk (nxS ks) m t t :=
 ⟨fun h=>z2q v (zeroS_st v) h,fun ⟨_,_,ht,hm,hw⟩=>(leS.zero ht).safe (z2p hm hw)⟩
def zi2 (ks:List Int) (m:Nat):Prop:=1≤m∧(∃ t,zaj ks t=true∧Wlk (nxS ks) m t t)∧∀ t k,zaj ks t=true→1≤k→Wlk (nxS ks) k t t→m≤k
theorem zi2.inj {ks:List Int} {m n:Nat} (h:zi2 ks m) (k:zi2 ks n):m=n:=by
 obtain ⟨h1,⟨t,ht,hw⟩,h3⟩:=h;obtain ⟨k1,⟨u,hu,ku⟩,k3⟩:=k;have:=h3 u n hu k1 ku;have:=k3 t m ht h1 hw;omega
open Go.RowKit Go.Shelf
def StB (W:World) (b:Nat) (s:List Int):Prop:=W.heap[b]? = some (.cells (stA s) 69 (0,0))
theorem StB.ext {W W':World} {b:Nat} {s:List Int} (h:StB W b s) (e:Ext W W'):StB W' b s:=(e.block _ (Array.getElem?_eq_some_iff.1 h).1).trans h
theorem StB.c {W:World} {b:Nat} {s:List Int} (h:StB W b s) (i:Nat) (hi:i < 5):W.cell? ⟨b,i,none⟩=some (.int .i64 (gt s i)):=by
 unfold StB at h;rw [cell_of_row _ _ _ _ _ _ h,(z0a s).at_ i hi]
theorem StB.free {W:World} {b:Nat} {s:List Int} (h:StB W b s) (o:Nat):W.frozen? ⟨b,o,none⟩=false:=by
 unfold StB at h;simp [World.frozen?,h]
theorem StB.lt {W:World} {b:Nat} {s:List Int} (h:StB W b s):b < W.heap.size:=(Array.getElem?_eq_some_iff.1 h).1
theorem StB.set {W:World} {b:Nat} {s:List Int} (h:StB W b s) (t:List Int):StB (((((W.setCell ⟨b,0,none⟩ (.int .i64 (gt t 0))).setCell ⟨b,1,none⟩ (.int .i64 (gt t 1))).setCell ⟨b,2,none⟩ (.int .i64 (gt t 2))).setCell ⟨b,3,none⟩ (.int .i64 (gt t 3))).setCell ⟨b,4,none⟩ (.int .i64 (gt t 4))) b t :=
 zp (zp (zp (zp (zp h 0 _) 1 _) 2 _) 3 _) 4 _
theorem zcy (s:List Int):stV s = .agg #[.int .i64 (gt s 0),.int .i64 (gt s 1),.int .i64 (gt s 2),.int .i64 (gt s 3),.int .i64 (gt s 4)]:=rfl
theorem StB.new (W:World) (s:List Int):StB (W.alloc (.cells #[.int .i64 (gt s 0),.int .i64 (gt s 1),.int .i64 (gt s 2),.int .i64 (gt s 3),.int .i64 (gt s 4)] 69)) W.heap.size s:=World.alloc_heap_new W _
theorem zt0 {W0 W:World} {B b:Nat} (h:Below B W0 W) (hb:B≤b) (v0 v1 v2 v3 v4:Value):Below B W0 (((((W.setCell ⟨b,0,none⟩ v0).setCell ⟨b,1,none⟩ v1).setCell ⟨b,2,none⟩ v2).setCell ⟨b,3,none⟩ v3).setCell ⟨b,4,none⟩ v4) :=
 ((((h.setCell hb _).setCell hb _).setCell hb _).setCell hb _).setCell hb _
def rowErr (ks row:List Int):Int:=if 1000 < row.length then 6 else if row.all (inR 0 ((ks.length:Int) - 1))=true then 0 else 2
theorem z68 {ks row:List Int} (e:rowErr ks row=0):row.length≤1000∧WinL ks row:=by
 unfold rowErr at e
 by_cases h1:1000 < row.length
 ·rw [if_pos h1] at e;omega
 rw [if_neg h1] at e
 by_cases h2:row.all (inR 0 ((ks.length:Int) - 1))=true
 ·refine ⟨by omega,fun x hx=>?_⟩
  have:=inR_iff.1 (List.all_eq_true.1 h2 x hx);omega
 ·rw [if_neg h2] at e;omega
theorem _root_.Go.Proofs.YtnfdiohfojjnlaaGreat.IsInts.nil (w:World) (k:IntKind):IsInts w k (.slice none 0 0) []:=⟨none,0,rfl,by simp,by omega,.inl rfl⟩
theorem z0h {ks:List Int}:∀ (row:List Int) (a b:Nat) (s:List Int),(za1 ks a s row).1=(za1 ks b s row).1
 | [],_,_,_=>rfl
 | w :: row,a,b,s=>by
  rw [za1,za1]
  split
  ·rfl
  ·exact z0h row _ _ _
def circErr (ks c:List Int):Int:=if tchk ks≠0 then tchk ks else if c.length < 1 then 6 else if rowErr ks c≠0 then rowErr ks c else if circP ks c=true then 0 else 17
def nxN (ks:List Int) (i:Int):List Int:=(nxS ks (zt ks i)).map (zau ks)
noncomputable def rkN (ks:List Int) (i:Int):Int:=rowOf (nxS ks) (zt ks i)
def RowsOk (ks:List Int) (rows:Int→Int):Prop:=∀ i,0≤i→i < zq ks→rows i = -1∨(0≤rows i∧Rk (nxS ks) (zt ks i) (rows i).toNat)
def bndL (rows:Int→Int):Int→List Int→Option Int
 | n,[]=>some n
 | n,x :: l=>if rows x < 0 then none else bndL rows (max n (rows x+1)) l
theorem bndL_none {rows:Int→Int}:∀ {l:List Int} {n:Int},bndL rows n l=none↔∃ x∈l,rows x < 0
 | [],n=>by simp [bndL]
 | x :: l,n=>by
  unfold bndL
  by_cases h:rows x < 0
  ·rw [if_pos h];simp [h]
  ·rw [if_neg h,bndL_none]
   simp [h]
theorem zxh {rows:Int→Int}:∀ {l:List Int} {n m:Int},bndL rows n l=some m→(∀ x∈l,0≤rows x)∧m=max n ((zdt (fun x=>(rows x).toNat) l:Nat):Int)∨(l=[]∧m=n)
 | [],n,m,h=>by cases h;exact .inr ⟨rfl,rfl⟩
 | x :: l,n,m,h=>by
  unfold bndL at h
  by_cases hx:rows x < 0
  ·rw [if_pos hx] at h;cases h
  rw [if_neg hx] at h
  left
  rcases zxh h with ⟨h1,h2⟩ | ⟨h1,h2⟩
  ·refine ⟨fun y hy=>?_,?_⟩
   ·rcases List.mem_cons.1 hy with hy | hy
    ·subst hy;omega
    ·exact h1 y hy
   ·rw [h2,zdt];omega
  ·subst h1
   refine ⟨fun y hy=>?_,?_⟩
   ·simp at hy;subst hy;omega
   ·rw [h2,zdt,zdt];omega
theorem bnd_rk {ks:List Int} (v:TVal ks) {rows:Int→Int} (h:RowsOk ks rows) {i:Int} {m:Int} (e:bndL rows 0 (nxN ks i)=some m):0≤m∧Rk (nxS ks) (zt ks i) m.toNat:=by
 have hst:=zf0 v.nn (n:=i);have key:∀ l:List (List Int),(∀ x∈l,zaj ks x=true)→(∀ x∈l.map (zau ks),0≤rows x)→(∀ x∈l,Rk (nxS ks) x (rows (zau ks x)).toNat)∧zdt (fun x=>(rows x).toNat) (l.map (zau ks))=zdt (fun x=>(rows (zau ks x)).toNat) l:=by
  intro l hl hr;refine ⟨fun x hx=>?_,?_⟩
  ·have hb:=zcl v.nn (hl x hx)
   have h0:=hr _ (List.mem_map.2 ⟨x,hx,rfl⟩)
   rcases h _ hb.1 hb.2 with h1 | ⟨_,h1⟩
   ·omega
   ·rwa [zfv v.nn (hl x hx)] at h1
  ·clear hl hr
   induction l with
   | nil=>rfl
   | cons a l ih=>rw [List.map_cons,zdt,zdt,ih]
 rcases zxh e with ⟨h1,h2⟩ | ⟨h1,h2⟩
 ·obtain ⟨k1,k2⟩:=key (nxS ks (zt ks i)) (ze0 v hst) h1
  have hk:=zae6 (nx:=nxS ks) (i:=zt ks i) k1;unfold nxN at h2;rw [k2] at h2;rw [h2];refine ⟨by omega,?_⟩;rw [show (max (0:Int) ((zdt (fun x=>(rows (zau ks x)).toNat) (nxS ks (zt ks i)):Nat):Int)).toNat=zdt (fun x=>(rows (zau ks x)).toNat) (nxS ks (zt ks i)) by omega];exact hk
 ·have:nxS ks (zt ks i)=[]:=by unfold nxN at h1;simpa using h1
  subst h2;refine ⟨Int.le_refl _,rfl,?_⟩;show (nxS ks (zt ks i)).any _=false;rw [this];rfl
theorem z69 {ks:List Int} (v:TVal ks) {rows:Int→Int} (hn:∀ i,0≤i→i < zq ks→rows i < 0→bndL rows 0 (nxN ks i)=none):∀ i,0≤i→i < zq ks→rows i < 0→zcp (nxS ks) (zt ks i):=by
 have hs:∀ s,(zaj ks s=true∧rows (zau ks s) < 0)→zcp (nxS ks) s:=zab5 fun s ⟨h1,h2⟩=>by
  have hb:=zcl v.nn h1;have:=hn _ hb.1 hb.2 h2;rw [bndL_none] at this;obtain ⟨x,hx,hr⟩:=this;unfold nxN at hx;rw [zfv v.nn h1] at hx;obtain ⟨y,hy,rfl⟩:=List.mem_map.1 hx;exact ⟨y,hy,ze0 v h1 y hy,hr⟩
 intro i h0 h1 hr;exact hs _ ⟨zf0 v.nn,by rw [z64 v.nn h0 h1];exact hr⟩
theorem rows_all {ks:List Int} (v:TVal ks) {rows:Int→Int} (h:RowsOk ks rows) (hn:∀ i,0≤i→i < zq ks→rows i < 0→bndL rows 0 (nxN ks i)=none):∀ i,0≤i→i < zq ks→rows i=rkN ks i:=by
 intro i h0 h1;unfold rkN
 rcases h i h0 h1 with e | ⟨e,hk⟩
 ·rw [ztv (z69 v hn i h0 h1 (by omega)),e]
 ·rw [zz1 hk];omega
theorem rows_bd {ks:List Int} (v:TVal ks) {rows:Int→Int} (h:RowsOk ks rows) {i:Int} (h0:0≤i) (h1:i < zq ks) : -1≤rows i∧rows i < 1000:=by
 rcases h i h0 h1 with e | ⟨e,hk⟩
 ·omega
 ·have:=zae7 v (zf0 v.nn) hk
  have:=v.pr;omega
theorem RowsOk.set {ks:List Int} (v:TVal ks) {rows:Int→Int} (h:RowsOk ks rows) {i m:Int} (e:bndL rows 0 (nxN ks i)=some m):RowsOk ks (fun x=>if x=i then m else rows x):=by
 intro x h0 h1
 by_cases hx:x=i
 ·subst hx
  obtain ⟨a,b⟩:=bnd_rk v h e;simp only [if_true];exact .inr ⟨a,b⟩
 ·simp only [if_neg hx];exact h x h0 h1
theorem rowsOk_start (ks:List Int):RowsOk ks (fun _=>-1):=fun _ _ _=>.inl rfl
end Go.Proofs.YtnfdiohfojjnlaaGreat.Tu
