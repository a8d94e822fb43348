/-
  The plain side of the chapter: counters, steps and halls as plain data, and what the functions of the program and of the references compute of them. No program in sight.
  The cheapest steps between places, as the program keeps them: plain.
  The least sums of ways, as the program reckons them: plain.
  How far the least sums can be: plain.
  What the functions of the program and of the references compute, as plain data: definitions, and their first laws. No program in sight.
-/
import Derived.Test.YtnoffnkmibjndaaGreatBa
set_option maxRecDepth 200000
set_option maxHeartbeats 0
namespace Go.Proofs.YtnoffnkmibjndaaGreat.Cu
structure Cnt where
 f:Int
 t:Int
 lo:Int
 hi:Int
deriving DecidableEq
structure Stp where
 win:Bool
 idx:Int
 back:Bool
deriving DecidableEq
structure Hall where
 n:Int
 most:Int
 cs:List Cnt
deriving DecidableEq
def inR (lo hi n:Int):Bool:=!(decide (n < lo) || decide (hi < n))
def chk (h:Hall):Int :=
 if h.n < 1∨10 < h.n∨10 < h.cs.length then 6
 else if h.cs.any (fun c=>decide (c.f < 0) || decide (c.t < c.f) || decide (h.n≤c.t)) then 2
 else if h.most < 0∨1000000 < h.most then 3
 else if h.cs.any (fun c=>!(decide (0≤c.lo) && decide (c.lo≤c.hi) && decide (c.hi≤10000000))) then 3
 else 0
structure Valid (h:Hall):Prop where
 n1:1≤h.n
 n10:h.n≤10
 len:h.cs.length≤10
 m0:0≤h.most
 m1:h.most≤1000000
 cs:∀ c∈h.cs,0≤c.f∧c.f≤c.t∧c.t < h.n∧0≤c.lo∧c.lo≤c.hi∧c.hi≤10000000
theorem valid_of_chk {h:Hall} (e:chk h=0):Valid h:=by
 unfold chk at e
 by_cases h1:h.n < 1∨10 < h.n∨10 < h.cs.length
 ·rw [if_pos h1] at e;omega
 rw [if_neg h1] at e
 by_cases h2:h.cs.any (fun c=>decide (c.f < 0) || decide (c.t < c.f) || decide (h.n≤c.t))=true
 ·rw [if_pos h2] at e;omega
 rw [if_neg h2] at e
 by_cases h3:h.most < 0∨1000000 < h.most
 ·rw [if_pos h3] at e;omega
 rw [if_neg h3] at e
 by_cases h4:h.cs.any (fun c=>!(decide (0≤c.lo) && decide (c.lo≤c.hi) && decide (c.hi≤10000000)))=true
 ·rw [if_pos h4] at e;omega
 refine ⟨by omega,by omega,by omega,by omega,by omega,fun c hc=>?_⟩;have a:¬ (c.f < 0∨c.t < c.f∨h.n≤c.t):=fun hh=>h2 (by rw [List.any_eq_true];exact ⟨c,hc,by simp;omega⟩)
 have b:¬ ¬ (0≤c.lo∧c.lo≤c.hi∧c.hi≤10000000):=fun hh=>h4 (by rw [List.any_eq_true];exact ⟨c,hc,by simp;omega⟩)
 omega
theorem chk_of_valid {h:Hall} (v:Valid h):chk h=0:=by
 unfold chk;have:=v.n1;have:=v.n10;have:=v.len;have:=v.m0;have:=v.m1;rw [if_neg (by omega),if_neg,if_neg (by omega),if_neg]
 ·rw [List.any_eq_true]
  rintro ⟨c,hc,h2⟩;have:=v.cs c hc;simp at h2;omega
 ·rw [List.any_eq_true]
  rintro ⟨c,hc,h2⟩;have:=v.cs c hc;simp at h2;omega
def za5 (h:Hall) (x:Stp):Bool:=if x.win then decide (0≤x.idx) && decide (x.idx < h.n) else decide (0≤x.idx) && decide (x.idx < (h.cs.length:Int))
def zb3 (h:Hall) (x:Stp):Cnt:=if x.win then ⟨x.idx,x.idx,0,h.most⟩ else h.cs.getD x.idx.toNat ⟨0,0,0,0⟩
def src (h:Hall) (x:Stp):Int:=if x.back then (zb3 h x).t+1 else (zb3 h x).f
def dst (h:Hall) (x:Stp):Int:=if x.back then (zb3 h x).f else (zb3 h x).t+1
def cost (h:Hall) (x:Stp):Int:=if x.back then -(zb3 h x).lo else (zb3 h x).hi
theorem zhw {h:Hall} (v:Valid h) {x:Stp} (o:za5 h x=true) :
  0≤(zb3 h x).f∧(zb3 h x).f≤(zb3 h x).t∧(zb3 h x).t < h.n∧0≤(zb3 h x).lo∧(zb3 h x).lo≤(zb3 h x).hi∧(zb3 h x).hi≤10000000:=by
 unfold za5 at o;unfold zb3;have:=v.m0;have:=v.m1
 by_cases hw:x.win=true
 ·rw [if_pos hw] at o ⊢
  simp at o ⊢;omega
 ·rw [if_neg hw] at o ⊢
  simp at o;have hl:x.idx.toNat < h.cs.length:=by omega
  have e:h.cs.getD x.idx.toNat ⟨0,0,0,0⟩=h.cs[x.idx.toNat]:=by simp [List.getD,hl]
  rw [e];exact v.cs _ (List.getElem_mem hl)
def zab (h:Hall) (i:Nat):List Stp :=
 if (i:Int) < h.n then [⟨true,i,false⟩,⟨true,i,true⟩] else [⟨false,(i:Int) - h.n,false⟩,⟨false,(i:Int) - h.n,true⟩]
def zgl (h:Hall):List Stp:=(List.range (h.n.toNat+h.cs.length)).flatMap (zab h)
theorem zin {h:Hall} (v:Valid h) {i:Nat} (hi:i < h.n.toNat+h.cs.length):∀ x∈zab h i,za5 h x=true:=by
 have:=v.n1;intro x hx;unfold zab at hx
 by_cases hw:(i:Int) < h.n
 ·rw [if_pos hw] at hx
  simp at hx
  rcases hx with rfl | rfl<;>simp [za5]<;>omega
 ·rw [if_neg hw] at hx
  simp at hx
  rcases hx with rfl | rfl<;>simp [za5]<;>omega
theorem zw9 {h:Hall} (v:Valid h):∀ x∈zgl h,za5 h x=true:=by
 intro x hx;unfold zgl at hx;rw [List.mem_flatMap] at hx;obtain ⟨i,hi,hx⟩:=hx;exact zin v (by simpa using hi) x hx
theorem zaa9 {h:Hall} (v:Valid h) {x:Stp} (o:za5 h x=true):x∈zgl h:=by
 have:=v.n1;obtain ⟨xw,xi,xb⟩:=x;unfold zgl;rw [List.mem_flatMap];cases xw
 ·simp [za5] at o
  refine ⟨h.n.toNat+xi.toNat,by simp;omega,?_⟩;unfold zab;rw [if_neg (by omega)];have e:((h.n.toNat+xi.toNat:Nat):Int) - h.n=xi:=by omega
  rw [e];cases xb<;>simp
 ·simp [za5] at o
  refine ⟨xi.toNat,by simp;omega,?_⟩;unfold zab;rw [if_pos (by omega)];have e:((xi.toNat:Nat):Int)=xi:=by omega
  rw [e];cases xb<;>simp
theorem zc1 (h:Hall) (i:Nat):(zab h i).length=2:=by unfold zab;split<;>rfl
def zaw:Int:=1099511627776
def zhi (h:Hall) (k:Int × Int):Option (Stp × Int) :=
 if 0≤k.1∧k.1≤h.n∧0≤k.2∧k.2≤h.n then some (⟨false,0,false⟩,zaw) else none
def zdf (h:Hall) (f:Int × Int→Option (Stp × Int)) (x:Stp) (k:Int × Int):Option (Stp × Int) :=
 match f k with
 | some a=>if k=(src h x,dst h x)∧cost h x < a.2 then some (x,cost h x) else some a
 | none=>none
def zcj (h:Hall) (xs:List Stp):Int × Int→Option (Stp × Int):=xs.foldl (zdf h) (zhi h)
theorem zs6 (h:Hall) (xs:List Stp) (x:Stp):zcj h (xs ++ [x])=zdf h (zcj h xs) x:=by simp [zcj]
def za3 (h:Hall) (k:Int × Int):Option (Stp × Int) :=
 match zcj h (zgl h) k with
 | some a=>if a.2=zaw then none else some a
 | none=>none
theorem z3q (h:Hall) (xs:List Stp) {k:Int × Int} (hk:0≤k.1∧k.1≤h.n∧0≤k.2∧k.2≤h.n):∃ a,zcj h xs k=some a:=by
 unfold zcj;have:∀ (f:Int × Int→Option (Stp × Int)),(∃ a,f k=some a)→∃ a,xs.foldl (zdf h) f k=some a:=by
  induction xs with
  | nil=>exact fun f hf=>hf
  | cons x xs ih =>
   intro f hf;refine ih _ ?_
   obtain ⟨a,ha⟩:=hf;unfold zdf;rw [ha]
   by_cases hc:k=(src h x,dst h x)∧cost h x < a.2
   ·exact ⟨_,by simp only;rw [if_pos hc]⟩
   ·exact ⟨_,by simp only;rw [if_neg hc]⟩
 exact this _ ⟨_,by unfold zhi;rw [if_pos hk]⟩
structure WSt where
 sums:Nat→Int
 before:Nat→Int
 by_:Nat→Stp
 ringed:Int
def upd {α:Type} (f:Nat→α) (i:Nat) (v:α):Nat→α:=fun j=>if j=i then v else f j
def lstep (A:Int × Int→Option (Stp × Int)) (s:WSt) (p q:Nat):WSt :=
 match A ((p:Int),(q:Int)) with
 | none=>s
 | some a=>if s.sums p=zaw∨s.sums q≤s.sums p+a.2 then s else ⟨upd s.sums q (s.sums p+a.2),upd s.before q (p:Int),upd s.by_ q a.1,(q:Int)⟩
def stQ (A:Int × Int→Option (Stp × Int)) (p:Nat) (s:WSt):Nat→WSt
 | 0=>s
 | q+1=>lstep A (stQ A p s q) p q
def stP (A:Int × Int→Option (Stp × Int)) (N:Nat) (s:WSt):Nat→WSt
 | 0=>s
 | p+1=>stQ A p (stP A N s p) N
def zmn (s t:WSt):Bool:=(List.range 11).all fun i=>s.sums i == t.sums i
def zfa (A:Int × Int→Option (Stp × Int)) (N:Nat):Nat→WSt→WSt × Bool
 | 0,s=>(s,false)
 | k+1,s=>if zmn s (stP A N s N) then (stP A N s N,true) else zfa A N k (stP A N s N)
def zfb (start:Nat):WSt:=⟨fun i=>if i=start then 0 else zaw,fun _=>0,fun _=>⟨false,0,false⟩,0⟩
def leastM (h:Hall) (start:Nat):WSt × Bool:=zfa (za3 h) (h.n.toNat+1) (h.n.toNat+2) (zfb start)
def Bd (t:Int) (s:WSt):Prop:=∀ i,s.sums i=zaw∨(-(10000000 * t)≤s.sums i∧s.sums i≤10000000 * t)
def zvc (A:Int × Int→Option (Stp × Int)):Prop:=∀ k a,A k=some a→-10000000≤a.2∧a.2≤10000000
theorem Bd.mono {t u:Int} {s:WSt} (h:Bd t s) (htu:t≤u):Bd u s:=fun i=>by
 rcases h i with h | h
 ·exact .inl h
 ·right;omega
theorem Bd.lstep {A:Int × Int→Option (Stp × Int)} (hA:zvc A) {t:Int} {s:WSt} (h:Bd t s) (p q:Nat):Bd (t+1) (lstep A s p q):=by
 unfold Go.Proofs.YtnoffnkmibjndaaGreat.Cu.lstep;cases ha:A ((p:Int),(q:Int)) with
 | none=>exact h.mono (by omega)
 | some a =>
  simp only
  split
  ·exact h.mono (by omega)
  ·rename_i hc
   intro i;have hp:=h p;have hcost:=hA _ _ ha;simp only [upd]
   by_cases hi:i=q
   ·rw [if_pos hi];omega
   ·rw [if_neg hi]
    rcases h i with h | h
    ·exact .inl h
    ·right;omega
theorem Bd.stQ {A:Int × Int→Option (Stp × Int)} (hA:zvc A) {t:Int} {s:WSt} (h:Bd t s) (p:Nat):∀ q:Nat,Bd (t+q) (stQ A p s q)
 | 0=>by simpa [Go.Proofs.YtnoffnkmibjndaaGreat.Cu.stQ] using h
 | q+1=>by have:=(Bd.stQ hA h p q).lstep hA p q;exact this.mono (by omega)
theorem Bd.stP {A:Int × Int→Option (Stp × Int)} (hA:zvc A) {N:Nat} {t:Int} {s:WSt} (h:Bd t s):∀ p:Nat,Bd (t+p * N) (stP A N s p)
 | 0=>by simpa [Go.Proofs.YtnoffnkmibjndaaGreat.Cu.stP] using h
 | p+1=>by
  have:=(Bd.stP (N:=N) hA h p).stQ hA p N;refine this.mono ?_
  have e:((p+1:Nat):Int) * N=p * N+N:=by rw [Int.natCast_add,Int.add_mul];omega
  omega
theorem zxa (start:Nat):Bd 0 (zfb start):=fun i=>by
 unfold zfb
 by_cases h:i=start
 ·simp [h]
 ·simp [h]
theorem zpb {h:Hall} (v:Valid h):zvc (za3 h):=by
 intro k a ha;unfold za3 at ha;have key:∀ (xs:List Stp),(∀ x∈xs,za5 h x=true)→∀ (f:Int × Int→Option (Stp × Int)),(∀ k a,f k=some a→a.2=zaw∨(-10000000≤a.2∧a.2≤10000000))→∀ k a,xs.foldl (zdf h) f k=some a→a.2=zaw∨(-10000000≤a.2∧a.2≤10000000):=by
  intro xs
  induction xs with
  | nil=>exact fun _ f hf=>hf
  | cons x xs ih =>
   intro hok f hf;refine ih (fun y hy=>hok y (List.mem_cons_of_mem _ hy)) _ ?_
   intro k a hr;unfold zdf at hr;cases hfk:f k with
   | none=>rw [hfk] at hr;cases hr
   | some b =>
    rw [hfk] at hr;simp only at hr
    split at hr
    ·cases hr
     right
     have:=zhw v (hok x (by simp));have:=v.m0;have:=v.m1;unfold cost
     split<;>simp<;>omega
    ·cases hr;exact hf k _ hfk
 have:=key (zgl h) (zw9 v) (zhi h) (fun k a hi=>by unfold zhi at hi;split at hi;cases hi;exact .inl rfl;cases hi) k;unfold zcj at ha;cases hx:(zgl h).foldl (zdf h) (zhi h) k with
 | none=>rw [hx] at ha;cases ha
 | some b =>
  rw [hx] at ha;simp only at ha
  split at ha
  ·cases ha
  ·cases ha
   rcases this _ hx with h | h
   ·exact absurd h ‹_›
   ·exact h
theorem zxb {A:Int × Int→Option (Stp × Int)} (hA:zvc A) {N:Nat} (hN:N≤11):∀ (k:Nat) (t:Int) (s:WSt),Bd t s→0≤t→Bd (t+k * 121) (zfa A N k s).1
 | 0,t,s,h,_=>by simpa [zfa] using h
 | k+1,t,s,h,ht=>by
  have e:((N * N:Nat):Int)≤121:=by
   have:=Nat.mul_le_mul hN hN;omega
  have e2:(N:Int) * N≤121:=by simpa using e
  have h1:Bd (t+121) (stP A N s N):=(h.stP hA (N:=N) N).mono (by omega);unfold zfa
  split
  ·exact h1.mono (by omega)
  ·have:=zxb hA hN k (t+121) _ h1 (by omega)
   refine this.mono ?_
   have e3:((k+1:Nat):Int)=k+1:=by simp
   rw [e3,Int.add_mul];omega
theorem zyq {h:Hall} (v:Valid h) (st i:Nat) : -20000000000≤(leastM h st).1.sums i∧(leastM h st).1.sums i≤1099511627776:=by
 have n1:=v.n1;have n10:=v.n10;have hb:=zxb (zpb v) (N:=h.n.toNat+1) (by omega) (h.n.toNat+2) 0 (zfb st) (zxa st) (by omega);have:=hb i;unfold zaw at this;unfold leastM;omega
def zl1 (n p:Int):Bool:=decide (p < 0) || decide (n < p)
def zgf (h:Hall) (ps:List Int):Int:=if chk h≠0 then chk h else if ps.any (zl1 h.n) then 2 else 0
theorem zgu (h:Hall):zgf h []=chk h:=by
 unfold zgf
 by_cases e:chk h=0<;>simp [e]
def fol (h:Hall) (s f:Int):List Stp→Int × Int × Bool
 | []=>(s,f,true)
 | x :: l=>if src h x=f then fol h (s+cost h x) (dst h x) l else (0,0,false)
def zgv (h:Hall) (l:List Stp):Bool :=
 match l with
 | []=>false
 | x :: _=>(fol h 0 (src h x) l).2.2 && decide ((fol h 0 (src h x) l).2.1=src h x) && decide ((fol h 0 (src h x) l).1 < 0)
theorem zadz {h:Hall} (v:Valid h) {x:Stp} (o:za5 h x=true) : -10000000≤cost h x∧cost h x≤10000000:=by
 have:=zhw v o;unfold cost
 split<;>omega
theorem zio {h:Hall} (v:Valid h) {x:Stp} (o:za5 h x=true):0≤src h x∧src h x≤h.n∧0≤dst h x∧dst h x≤h.n:=by
 have:=zhw v o;unfold src dst
 split<;>omega
def JB (t:Int) (l:List Int):Prop:=∀ x∈l,x=zaw∨(-(10000000 * t)≤x∧x≤10000000 * t)
theorem JB.mono {t u:Int} {l:List Int} (h:JB t l) (htu:t≤u):JB u l:=fun x hx=>by
 rcases h x hx with h | h
 ·exact .inl h
 ·right;omega
def Chain (s:WSt) (start:Nat):Nat→Nat→Prop
 | 0,a=>a=start
 | k+1,a=>a≠start∧a < 11∧0≤s.before a∧s.before a < 11∧Chain s start k (s.before a).toNat
def zfx (s:WSt):Nat→Nat→List Stp
 | 0,_=>[]
 | k+1,a=>s.by_ a :: zfx s k (s.before a).toNat
def itB (s:WSt):Nat→Nat→Nat
 | 0,a=>a
 | k+1,a=>itB s k (s.before a).toNat
theorem zt1 (s:WSt):∀ k a,itB s (k+1) a=(s.before (itB s k a)).toNat
 | 0,_=>rfl
 | k+1,a=>by rw [itB,zt1 s k,itB]
def zac7 (s:WSt):Prop:=∀ i,i < 11→0≤s.before i∧s.before i < 11
def ringAt (s:WSt):Nat:=itB s 11 s.ringed.toNat
def zkg (s:WSt) (K:Nat):List Stp:=s.by_ (ringAt s) :: zfx s K (s.before (ringAt s)).toNat
def mark (a:Nat→Int) (i:Int):List Stp→Option (Nat→Int)
 | []=>some a
 | x :: l=>if x.win then mark a i l else if 0 < a x.idx.toNat∧a x.idx.toNat≠i+1 then none else mark (upd a x.idx.toNat (i+1)) i l
def marks (a:Nat→Int) (i:Int):List (List Stp)→Bool
 | []=>true
 | r :: rs=>match mark a i r with | none=>false | some a'=>marks a' (i+1) rs
def spanE (h:Hall) (f t:Int):Int:=if chk h≠0 then chk h else if f < 0∨t < f∨h.n≤t then 2 else if (leastM h f.toNat).2 then 0 else 5
def spanLo (h:Hall) (f t:Int):Int:=if spanE h f t=0 then -((leastM h (t.toNat+1)).1.sums f.toNat) else 0
def spanHi (h:Hall) (f t:Int):Int:=if spanE h f t=0 then (leastM h f.toNat).1.sums (t.toNat+1) else 0
def truthErr (h:Hall):Int:=if chk h≠0 then chk h else if (leastM h 0).2 then 0 else 5
def zcz (h:Hall):List Int:=(List.range h.n.toNat).map fun j=>(leastM h 0).1.sums (j+1) - (leastM h 0).1.sums j
def truthL (h:Hall):List Int:=if truthErr h=0 then zcz h else []
def sm (t:List Int) (f to:Int):Int:=((t.drop f.toNat).take (to+1 - f).toNat).sum
def zl2 (t:List Int) (c:Cnt):Bool:=!(inR c.lo c.hi (sm t c.f c.t))
def zev (h:Hall) (t:List Int):Int :=
 if chk h≠0 then chk h else if (t.length:Int)≠h.n then 15 else if t.all (inR 0 h.most)=false then 3 else if h.cs.any (zl2 t) then 14 else 0
theorem zp9 (l:List Int) (k:Nat) (hk:k < l.length):(l.take (k+1)).sum=(l.take k).sum+l[k]:=by
 rw [List.take_succ_eq_append_getElem hk,List.sum_append];simp
theorem zafe (l:List Int) (m:Int) (h:∀ x∈l,0≤x∧x≤m):0≤l.sum∧l.sum≤m * l.length:=by
 induction l with
 | nil=>simp
 | cons a l ih =>
  have h1:=h a (by simp);have h2:=ih fun x hx=>h x (by simp [hx])
  simp only [List.sum_cons,List.length_cons];have e:m * ((l.length+1:Nat):Int)=m * l.length+m:=by
   rw [show ((l.length+1:Nat):Int)=(l.length:Int)+1 from by simp,Int.mul_add,Int.mul_one]
  omega
def zaff (s:WSt):Prop:=zac7 s∧0≤s.ringed∧s.ringed < 11∧∃ K,K≤1000∧Chain s (ringAt s) K (s.before (ringAt s)).toNat
theorem zli {h:Hall} {k:Int × Int}:∀ (xs:List Stp) (f:Int × Int→Option (Stp × Int)) (a:Stp × Int),f k=some a →
  ∃ b,xs.foldl (zdf h) f k=some b∧b.2≤a.2∧(∀ x∈xs,k=(src h x,dst h x)→b.2≤cost h x)∧(b=a∨∃ x∈xs,k=(src h x,dst h x)∧b=(x,cost h x))
 | [],f,a,e=>⟨a,e,Int.le_refl _,by simp,.inl rfl⟩
 | x :: xs,f,a,e=>by
  rw [List.foldl_cons]
  by_cases hc:k=(src h x,dst h x)∧cost h x < a.2
  ·have e2:zdf h f x k=some (x,cost h x):=by unfold zdf;rw [e];simp only;rw [if_pos hc]
   obtain ⟨b,h1,h2,h3,h4⟩:=zli xs _ _ e2;refine ⟨b,h1,by have:=h2;simp at this;omega,fun y hy hk=>?_,?_⟩
   ·rcases List.mem_cons.1 hy with rfl | hy
    ·exact h2
    ·exact h3 y hy hk
   ·right
    rcases h4 with rfl | ⟨y,hy,hk,rfl⟩
    ·exact ⟨x,by simp,hc.1,rfl⟩
    ·exact ⟨y,by simp [hy],hk,rfl⟩
  ·have e2:zdf h f x k=some a:=by unfold zdf;rw [e];simp only;rw [if_neg hc]
   obtain ⟨b,h1,h2,h3,h4⟩:=zli xs _ _ e2;refine ⟨b,h1,h2,fun y hy hk=>?_,?_⟩
   ·rcases List.mem_cons.1 hy with rfl | hy
    ·have:¬ cost h y < a.2:=fun hh=>hc ⟨hk,hh⟩
     omega
    ·exact h3 y hy hk
   ·rcases h4 with rfl | ⟨y,hy,hk,rfl⟩
    ·exact .inl rfl
    ·exact .inr ⟨y,by simp [hy],hk,rfl⟩
theorem zyr {h:Hall} (v:Valid h) {k:Int × Int} {a:Stp × Int} (e:za3 h k=some a):za5 h a.1=true∧src h a.1=k.1∧dst h a.1=k.2∧cost h a.1=a.2:=by
 unfold za3 at e;cases hi:zhi h k with
 | none =>
  have key:∀ (xs:List Stp) (f:Int × Int→Option (Stp × Int)),f k=none→xs.foldl (zdf h) f k=none:=by
   intro xs
   induction xs with
   | nil=>exact fun f hf=>hf
   | cons x xs ih=>exact fun f hf=>ih _ (by unfold zdf;rw [hf])
  unfold zcj at e;rw [key _ _ hi] at e;cases e
 | some a0 =>
  have ha0:a0.2=zaw:=by unfold zhi at hi;split at hi;cases hi;rfl;cases hi
  obtain ⟨b,h1,h2,h3,h4⟩:=zli (h:=h) (zgl h) _ _ hi;unfold zcj at e;rw [h1] at e;simp only at e
  split at e
  ·cases e
  ·cases e
   rcases h4 with rfl | ⟨x,hx,hk,rfl⟩
   ·exact absurd ha0 ‹_›
   ·subst hk
    exact ⟨zw9 v x hx,rfl,rfl,rfl⟩
theorem zad0 {h:Hall} (v:Valid h) {x:Stp} (o:za5 h x=true):∃ a,za3 h (src h x,dst h x)=some a∧a.2≤cost h x:=by
 have hin:=zio v o;have hi:zhi h (src h x,dst h x)=some (⟨false,0,false⟩,zaw):=by unfold zhi;rw [if_pos hin]
 obtain ⟨b,h1,h2,h3,h4⟩:=zli (h:=h) (zgl h) _ _ hi;have hb:=h3 x (zaa9 v o) rfl;have hc:=zadz v o;refine ⟨b,?_,hb⟩;unfold za3 zcj;rw [h1];simp only;rw [if_neg (by unfold zaw;omega)]
theorem z6f {h:Hall} (v:Valid h) {x:Stp} (o:za5 h x=true):src h x≠dst h x:=by
 have:=zhw v o;unfold src dst
 split<;>omega
structure Inv (h:Hall) (st k:Nat) (s0 s:WSt) (r t:Nat→Nat) (now:Nat) (D:Nat→Nat→Prop):Prop where
 rk:∀ q,r q≤k
 zero:∀ q,r q=0→s.sums q=(zfb st).sums q
 befz:∀ q,r q=0→s.before q=0
 le:∀ q,s.sums q≤zaw
 fin:∀ q,1≤r q→s.sums q < zaw
 bet:∀ q,1≤r q→∃ p:Nat,s.before q=p∧za5 h (s.by_ q)=true∧src h (s.by_ q)=p∧dst h (s.by_ q)=q∧s.sums p≠zaw∧s.sums p+cost h (s.by_ q)≤s.sums q ∧
  (t q < t p→s.sums p+cost h (s.by_ q) < s.sums q)∧t p≠t q∧r q≤r p+1∧(r p=0→p=st)
 tn:∀ q,t q≤now
 dn:∀ q,s.sums q≤s0.sums q
 dk:∀ q,r q=k→s.sums q < s0.sums q
 lst:(∀ q,s.sums q=s0.sums q)∨∃ q:Nat,s.ringed=q∧r q=k
 rel:∀ (p q:Nat) a,za3 h ((p:Int),(q:Int))=some a→s.sums p=zaw∨s.sums q≤s.sums p+a.2∨k≤r p∨(¬ D p q∧k≤r p+1)
theorem zb9 {α:Type} (f:Nat→α) (i:Nat) (v:α):upd f i v i=v:=by simp [upd]
theorem upd_off {α:Type} (f:Nat→α) {i j:Nat} (v:α) (h:j≠i):upd f i v j=f j:=by simp [upd,h]
theorem Inv.step {h:Hall} (v:Valid h) {st k:Nat} (hk:1≤k) {s0 s:WSt} {r t:Nat→Nat} {now:Nat} {D:Nat→Nat→Prop} (I:Inv h st k s0 s r t now D) (p q:Nat) (D':Nat→Nat→Prop) (hD:∀ i j,D' i j→D i j∨(i=p∧j=q)) :
  ∃ r' t' now',Inv h st k s0 (lstep (za3 h) s p q) r' t' now' D':=by
 cases ha:za3 h ((p:Int),(q:Int)) with
 | none =>
  have e:lstep (za3 h) s p q=s:=by unfold lstep;rw [ha]
  rw [e];refine ⟨r,t,now,{ I with rel:=fun i j a hij=>?_ }⟩
  rcases I.rel i j a hij with h1 | h1 | h1 | ⟨h1,h2⟩
  ·exact .inl h1
  ·exact .inr (.inl h1)
  ·exact .inr (.inr (.inl h1))
  ·refine .inr (.inr (.inr ⟨fun hd=>?_,h2⟩))
   rcases hD i j hd with hd | ⟨rfl,rfl⟩
   ·exact h1 hd
   ·rw [ha] at hij;cases hij
 | some a =>
  by_cases hc:s.sums p=zaw∨s.sums q≤s.sums p+a.2
  ·have e:lstep (za3 h) s p q=s:=by unfold lstep;rw [ha];simp only;rw [if_pos hc]
   rw [e];refine ⟨r,t,now,{ I with rel:=fun i j b hij=>?_ }⟩
   rcases I.rel i j b hij with h1 | h1 | h1 | ⟨h1,h2⟩
   ·exact .inl h1
   ·exact .inr (.inl h1)
   ·exact .inr (.inr (.inl h1))
   ·by_cases hd:D' i j
    ·rcases hD i j hd with hd | ⟨rfl,rfl⟩
     ·exact absurd hd h1
     ·rw [ha] at hij;cases hij
      rcases hc with hc | hc
      ·exact .inl hc
      ·exact .inr (.inl hc)
    ·exact .inr (.inr (.inr ⟨hd,h2⟩))
  ·have e:lstep (za3 h) s p q=⟨upd s.sums q (s.sums p+a.2),upd s.before q (p:Int),upd s.by_ q a.1,(q:Int)⟩:=by
    unfold lstep;rw [ha];simp only;rw [if_neg hc]
   rw [e];obtain ⟨hp,hlt⟩:s.sums p≠zaw∧s.sums p+a.2 < s.sums q:=⟨fun hh=>hc (.inl hh),by have:¬ s.sums q≤s.sums p+a.2:=fun hh=>hc (.inr hh);omega⟩
   obtain ⟨a1,a2,a3,a4⟩:=zyr v ha;simp only at a2 a3;have hpq:p≠q:=fun hh=>z6f v a1 (by rw [a2,a3,hh])
   have hkp:k≤r p+1:=by
    rcases I.rel p q a ha with h1 | h1 | h1 | ⟨_,h1⟩
    ·exact absurd h1 hp
    ·omega
    ·omega
    ·exact h1
   have hleq:=I.le q;refine ⟨upd r q k,upd t q (now+1),now+1,?_⟩
   constructor
   ·intro j
    by_cases hj:j=q
    ·subst hj;rw [zb9];exact Nat.le_refl _
    ·rw [upd_off _ _ hj];exact I.rk j
   ·intro j hr
    by_cases hj:j=q
    ·subst hj;rw [zb9] at hr;omega
    ·rw [upd_off _ _ hj] at hr
     simp only;rw [upd_off _ _ hj];exact I.zero j hr
   ·intro j hr
    by_cases hj:j=q
    ·subst hj;rw [zb9] at hr;omega
    ·rw [upd_off _ _ hj] at hr
     simp only;rw [upd_off _ _ hj];exact I.befz j hr
   ·intro j
    simp only
    by_cases hj:j=q
    ·subst hj;rw [zb9];omega
    ·rw [upd_off _ _ hj];exact I.le j
   ·intro j hr
    simp only
    by_cases hj:j=q
    ·subst hj;rw [zb9];omega
    ·rw [upd_off _ _ hj] at hr ⊢;exact I.fin j hr
   ·intro j hr
    simp only
    by_cases hj:j=q
    ·subst hj
     rw [zb9,zb9,zb9,zb9,zb9];refine ⟨p,rfl,a1,a2,a3,?_⟩;rw [upd_off _ _ hpq,upd_off _ _ hpq,upd_off _ _ hpq];refine ⟨hp,by omega,fun hh=>?_,?_,hkp,fun hr0=>?_⟩
     ·have:=I.tn p;omega
     ·have:=I.tn p;omega
     ·have hz:=I.zero p hr0
      unfold zfb at hz;simp only at hz
      by_cases hps:p=st
      ·exact hps
      ·rw [if_neg hps] at hz;exact absurd hz hp
    ·rw [upd_off _ _ hj] at hr
     rw [upd_off _ _ hj,upd_off _ _ hj,upd_off _ _ hj,upd_off _ _ hj,upd_off _ _ hj];obtain ⟨p',b1,b2,b3,b4,b5,b6,b7,b8,b9,b10⟩:=I.bet j hr;refine ⟨p',b1,b2,b3,b4,?_⟩
     by_cases hp':p'=q
     ·subst hp'
      rw [zb9,zb9,zb9];have:=I.tn j;have:=I.rk j;exact ⟨by omega,by omega,fun _=>by omega,by omega,by omega,fun hh=>by omega⟩
     ·rw [upd_off _ _ hp',upd_off _ _ hp',upd_off _ _ hp']
      exact ⟨b5,b6,b7,b8,b9,b10⟩
   ·intro j
    by_cases hj:j=q
    ·subst hj;rw [zb9];exact Nat.le_refl _
    ·rw [upd_off _ _ hj];have:=I.tn j;omega
   ·intro j
    simp only
    by_cases hj:j=q
    ·subst hj;rw [zb9];have:=I.dn j;omega
    ·rw [upd_off _ _ hj];exact I.dn j
   ·intro j hr
    simp only
    by_cases hj:j=q
    ·subst hj;rw [zb9];have:=I.dn j;omega
    ·rw [upd_off _ _ hj] at hr ⊢;exact I.dk j hr
   ·exact .inr ⟨q,rfl,by rw [zb9]⟩
   ·intro i j b hij
    simp only
    by_cases hi:i=q
    ·subst hi;right;right;left;rw [zb9];exact Nat.le_refl _
    ·rw [upd_off _ _ hi,upd_off _ _ hi]
     by_cases hj:j=q
     ·subst hj
      rw [zb9]
      by_cases hip:i=p
      ·subst hip
       rw [ha] at hij;cases hij;exact .inr (.inl (by omega))
      ·rcases I.rel i j b hij with h1 | h1 | h1 | ⟨h1,h2⟩
       ·exact .inl h1
       ·exact .inr (.inl (by omega))
       ·exact .inr (.inr (.inl h1))
       ·refine .inr (.inr (.inr ⟨fun hd=>?_,h2⟩))
        rcases hD i j hd with hd | ⟨h3,_⟩
        ·exact h1 hd
        ·exact hip h3
     ·rw [upd_off _ _ hj]
      rcases I.rel i j b hij with h1 | h1 | h1 | ⟨h1,h2⟩
      ·exact .inl h1
      ·exact .inr (.inl h1)
      ·exact .inr (.inr (.inl h1))
      ·refine .inr (.inr (.inr ⟨fun hd=>?_,h2⟩))
       rcases hD i j hd with hd | ⟨_,h3⟩
       ·exact h1 hd
       ·exact hj h3
theorem Inv.wide {h:Hall} {st k:Nat} {s0 s:WSt} {r t:Nat→Nat} {now:Nat} {D D':Nat→Nat→Prop} (I:Inv h st k s0 s r t now D) (hD:∀ i j,D' i j→D i j):Inv h st k s0 s r t now D' :=
 { I with rel:=fun i j a hij=>(I.rel i j a hij).imp id (Or.imp id (Or.imp id fun ⟨h1,h2⟩=>⟨fun hd=>h1 (hD i j hd),h2⟩)) }
theorem Inv.rowQ {h:Hall} (v:Valid h) {st k:Nat} (hk:1≤k) {s0 s:WSt} {r t:Nat→Nat} {now:Nat} {p:Nat} {D:Nat→Nat→Prop} (I:Inv h st k s0 s r t now D) :
  ∀ q,∃ r' t' now',Inv h st k s0 (stQ (za3 h) p s q) r' t' now' (fun i j=>D i j∨(i=p∧j < q))
 | 0=>⟨r,t,now,I.wide fun i j hd=>by rcases hd with hd | ⟨_,hd⟩;exact hd;omega⟩
 | q+1=>by
  obtain ⟨r',t',now',I'⟩:=Inv.rowQ v hk (p:=p) I q;exact I'.step v hk p q _ fun i j hd=>by
   rcases hd with hd | ⟨h1,h2⟩
   ·exact .inl (.inl hd)
   ·by_cases hj:j=q
    ·exact .inr ⟨h1,hj⟩
    ·exact .inl (.inr ⟨h1,by omega⟩)
theorem Inv.rowP {h:Hall} (v:Valid h) {st k N:Nat} (hk:1≤k) {s0 s:WSt} {r t:Nat→Nat} {now:Nat} (I:Inv h st k s0 s r t now (fun _ _=>False)) :
  ∀ p,∃ r' t' now',Inv h st k s0 (stP (za3 h) N s p) r' t' now' (fun i j=>i < p∧j < N)
 | 0=>⟨r,t,now,I.wide fun i j hd=>by omega⟩
 | p+1=>by
  obtain ⟨r',t',now',I'⟩:=Inv.rowP v hk (N:=N) I p;obtain ⟨r2,t2,now2,I2⟩:=I'.rowQ v hk (p:=p) N;exact ⟨r2,t2,now2,I2.wide fun i j hd=>by
   by_cases hi:i=p
   ·exact .inr ⟨hi,hd.2⟩
   ·exact .inl ⟨by omega,hd.2⟩⟩
def Fix (h:Hall) (s:WSt):Prop:=∀ (p q:Nat) a,za3 h ((p:Int),(q:Int))=some a→s.sums p=zaw∨s.sums q≤s.sums p+a.2
theorem Inv.next {h:Hall} {st k:Nat} {s0 s:WSt} {r t:Nat→Nat} {now:Nat} {D:Nat→Nat→Prop} (I:Inv h st k s0 s r t now D) (hD:∀ (p q:Nat) a,za3 h ((p:Int),(q:Int))=some a→D p q) :
  Inv h st (k+1) s s r t now (fun _ _=>False) :=
 { I with
  rk:=fun q=>by have:=I.rk q;omega
  dn:=fun q=>Int.le_refl _
  dk:=fun q hq=>by have:=I.rk q;omega
  lst:=.inl fun _=>rfl
  rel:=fun p q a ha=>by
   rcases I.rel p q a ha with h1 | h1 | h1 | ⟨h1,_⟩
   ·exact .inl h1
   ·exact .inr (.inl h1)
   ·exact .inr (.inr (.inr ⟨fun h=>h,by omega⟩))
   ·exact absurd (hD p q a ha) h1 }
theorem zaba (h:Hall) (st:Nat):Inv h st 1 (zfb st) (zfb st) (fun _=>0) (fun _=>0) 0 (fun _ _=>False) where
 rk _:=by omega
 zero _ _:=rfl
 befz _ _:=rfl
 le q:=by unfold zfb zaw;simp only;split<;>omega
 fin q hq:=by omega
 bet q hq:=by omega
 tn _:=by omega
 dn _:=Int.le_refl _
 dk q hq:=by omega
 lst:=.inl fun _=>rfl
 rel p q a ha:=.inr (.inr (.inr ⟨fun h=>h,by omega⟩))
theorem z8t {h:Hall} (v:Valid h) {p q:Nat} {a:Stp × Int} (e:za3 h ((p:Int),(q:Int))=some a):(p:Int)≤h.n∧(q:Int)≤h.n:=by
 obtain ⟨a1,a2,a3,_⟩:=zyr v e;have:=zio v a1;simp only at a2 a3;omega
theorem z1g {h:Hall} (v:Valid h) {st:Nat}:∀ (j k:Nat) (s:WSt) (r t:Nat→Nat) (now:Nat),1≤k→Inv h st k s s r t now (fun _ _=>False)→(∃ q:Nat,s.ringed=q∧r q+1=k) →
  ∃ k' r' t' now',Inv h st k' (zfa (za3 h) (h.n.toNat+1) j s).1 (zfa (za3 h) (h.n.toNat+1) j s).1 r' t' now' (fun _ _=>False) ∧
   ((zfa (za3 h) (h.n.toNat+1) j s).2=true→Fix h (zfa (za3 h) (h.n.toNat+1) j s).1)∧((zfa (za3 h) (h.n.toNat+1) j s).2=false→∃ q:Nat,(zfa (za3 h) (h.n.toNat+1) j s).1.ringed=q∧r' q+1=k+j)
 | 0,k,s,r,t,now,hk,I,hq=>⟨k,r,t,now,I,fun e=>by simp [zfa] at e,fun _=>hq⟩
 | j+1,k,s,r,t,now,hk,I,hq=>by
  have n1:=v.n1;have n10:=v.n10;obtain ⟨r1,t1,now1,I1⟩:=I.rowP v hk (N:=h.n.toNat+1) (h.n.toNat+1);have hD:∀ (p q:Nat) a,za3 h ((p:Int),(q:Int))=some a→p < h.n.toNat+1∧q < h.n.toNat+1:=fun p q a ha=>by
   have:=z8t v ha;omega
  unfold zfa;cases hs:zmn s (stP (za3 h) (h.n.toNat+1) s (h.n.toNat+1)) with
  | true =>
   simp only [if_true];refine ⟨k+1,r1,t1,now1,I1.next hD,fun _=>?_,fun e=>by cases e⟩;have heq:∀ i,i < 11→s.sums i=(stP (za3 h) (h.n.toNat+1) s (h.n.toNat+1)).sums i:=fun i hi=>by
    have:=List.all_eq_true.1 hs i (List.mem_range.2 hi);simpa using this
   intro p q a ha;have hin:=z8t v ha
   rcases I1.rel p q a ha with h1 | h1 | h1 | ⟨h1,_⟩
   ·exact .inl h1
   ·exact .inr h1
   ·exfalso
    have:=I1.rk p;have:=I1.dk p (by omega);have:=heq p (by omega);omega
   ·exact absurd (hD p q a ha) h1
  | false =>
   simp only [Bool.false_eq_true,if_false];have hne:¬ ∀ q,(stP (za3 h) (h.n.toNat+1) s (h.n.toNat+1)).sums q=s.sums q:=fun hh=>by
    have:zmn s (stP (za3 h) (h.n.toNat+1) s (h.n.toNat+1))=true:=by
     unfold zmn;rw [List.all_eq_true];intro i _;simp [hh i]
    rw [this] at hs;cases hs
   have hl:∃ q:Nat,(stP (za3 h) (h.n.toNat+1) s (h.n.toNat+1)).ringed=q∧r1 q+1=k+1:=by
    rcases I1.lst with h1 | ⟨q,h1,h2⟩
    ·exact absurd h1 hne
    ·exact ⟨q,h1,by omega⟩
   obtain ⟨k',r',t',now',I',hf,hr⟩:=z1g v j (k+1) _ r1 t1 now1 (by omega) (I1.next hD) hl;exact ⟨k',r',t',now',I',hf,fun e=>by
    obtain ⟨q,h1,h2⟩:=hr e;exact ⟨q,h1,by omega⟩⟩
theorem z8u:∀ (M:Nat) (f:Nat→Nat),(∀ i,i≤M→f i < M)→∃ i j,i < j∧j≤M∧f i=f j
 | 0,f,h=>by have:=h 0 (Nat.le_refl _);omega
 | M+1,f,h=>by
  by_cases hex:∃ i,i≤M∧f i=f (M+1)
  ·obtain ⟨i,hi,e⟩:=hex
   exact ⟨i,M+1,by omega,Nat.le_refl _,e⟩
  ·have hne:∀ i,i≤M→f i≠f (M+1):=fun i hi e=>hex ⟨i,hi,e⟩
   have hc:=h (M+1) (Nat.le_refl _);obtain ⟨i,j,h1,h2,h3⟩:=z8u M (fun i=>if f i=M then f (M+1) else f i) fun i hi=>by
    have h1:=h i (by omega);have h2:=hne i hi;show (if f i=M then f (M+1) else f i) < M
    split<;>omega
   refine ⟨i,j,h1,by omega,?_⟩;have ni:=hne i (by omega);have nj:=hne j h2
   by_cases a:f i=M
   ·by_cases b:f j=M
    ·omega
    ·rw [if_pos a,if_neg b] at h3;omega
   ·by_cases b:f j=M
    ·rw [if_neg a,if_pos b] at h3;omega
    ·rw [if_neg a,if_neg b] at h3;exact h3
theorem zmo (s:WSt):∀ k m a,itB s m (itB s k a)=itB s (k+m) a
 | 0,m,a=>by rw [itB,Nat.zero_add]
 | k+1,m,a=>by rw [itB,zmo s k,Nat.add_right_comm];rfl
theorem leastN {p:Nat→Prop} (h:∃ n,p n):∃ n,p n∧∀ m,m < n→¬ p m:=by
 obtain ⟨n,hn⟩:=h
 induction n using Nat.strongRecOn with
 | _ n ih =>
  by_cases hex:∃ m,m < n∧p m
  ·obtain ⟨m,h1,h2⟩:=hex
   exact ih m h1 h2
  ·exact ⟨n,hn,fun m hm hp=>hex ⟨m,hm,hp⟩⟩
theorem zpc (h:Hall):∀ (l l':List Stp) (s f:Int),fol h s f (l ++ l')=if (fol h s f l).2.2=true then fol h (fol h s f l).1 (fol h s f l).2.1 l' else (0,0,false)
 | [],l',s,f=>by simp [fol]
 | x :: l,l',s,f=>by
  rw [List.cons_append,fol,fol]
  by_cases hs:src h x=f
  ·rw [if_pos hs,if_pos hs,zpc h l]
  ·rw [if_neg hs,if_neg hs];simp
def IsW (h:Hall) (f:Int) (l:List Stp) (t:Int):Prop:=(∀ x∈l,za5 h x=true)∧∀ s,fol h s f l=(s+(l.map (cost h)).sum,t,true)
theorem IsW.nil (h:Hall) (f:Int):IsW h f [] f:=⟨by simp,fun s=>by simp [fol]⟩
theorem IsW.snoc {h:Hall} {f t:Int} {l:List Stp} (a:IsW h f l t) {x:Stp} (o:za5 h x=true) (hs:src h x=t):IsW h f (l ++ [x]) (dst h x):=by
 refine ⟨fun y hy=>?_,fun s=>?_⟩
 ·rcases List.mem_append.1 hy with hy | hy
  ·exact a.1 y hy
  ·simp at hy;rw [hy];exact o
 ·rw [zpc,a.2 s]
  simp only [if_true,fol,hs];simp only [List.map_append,List.sum_append,List.map_cons,List.map_nil,List.sum_cons,List.sum_nil,Prod.mk.injEq,and_true];omega
theorem IsW.cons {h:Hall} {t:Int} {l:List Stp} {x:Stp} (o:za5 h x=true) (a:IsW h (dst h x) l t):IsW h (src h x) (x :: l) t:=by
 refine ⟨fun y hy=>?_,fun s=>?_⟩
 ·rcases List.mem_cons.1 hy with rfl | hy
  ·exact o
  ·exact a.1 y hy
 ·rw [fol,if_pos rfl,a.2]
  simp only [List.map_cons,List.sum_cons,Prod.mk.injEq,and_true];omega
theorem IsW.append {h:Hall} {f t u:Int} {l l':List Stp} (a:IsW h f l t) (b:IsW h t l' u):IsW h f (l ++ l') u:=by
 refine ⟨fun y hy=>?_,fun s=>?_⟩
 ·rcases List.mem_append.1 hy with hy | hy
  ·exact a.1 y hy
  ·exact b.1 y hy
 ·rw [zpc,a.2 s]
  simp only [if_true,b.2];simp only [List.map_append,List.sum_append,Prod.mk.injEq,and_true];omega
theorem zvd {h:Hall} {l:List Stp} (ok:∀ x∈l,za5 h x=true) {s f:Int} (e:(fol h s f l).2.2=true):IsW h f l (fol h s f l).2.1:=by
 refine ⟨ok,?_⟩;clear ok
 induction l generalizing s f with
 | nil=>intro s';simp [fol]
 | cons x l ih =>
  intro s';unfold fol at e ⊢
  by_cases hs:src h x=f
  ·rw [if_pos hs] at e ⊢
   rw [if_pos hs,ih e];simp only [List.map_cons,List.sum_cons,Prod.mk.injEq,and_true];omega
  ·rw [if_neg hs] at e;simp at e
theorem z6g {h:Hall} {l:List Stp} {f:Int} (a:IsW h f l f) (hn:(l.map (cost h)).sum < 0):zgv h l=true:=by
 cases l with
 | nil=>simp at hn
 | cons x l =>
  have e:=a.2 0;have hs:src h x=f:=by
   rw [fol] at e
   by_cases hs:src h x=f
   ·exact hs
   ·rw [if_neg hs] at e;simp at e
  unfold zgv;simp only;rw [hs,e];simpa using hn
theorem z3r {h:Hall} {l:List Stp} (ok:∀ x∈l,za5 h x=true) (e:zgv h l=true):∃ f,IsW h f l f∧(l.map (cost h)).sum < 0∧0 < l.length:=by
 cases l with
 | nil=>simp [zgv] at e
 | cons x l =>
  unfold zgv at e;simp only [Bool.and_eq_true,decide_eq_true_eq] at e;obtain ⟨⟨e1,e2⟩,e3⟩:=e;have a:=zvd ok e1;have e4:=a.2 0;rw [e2] at a;refine ⟨_,a,?_,by simp⟩;rw [e4] at e3;simpa using e3
def Pot (h:Hall) (d:Nat→Int):Prop:=∀ x,za5 h x=true→d (dst h x).toNat≤d (src h x).toNat+cost h x
theorem Pot.way {h:Hall} {d:Nat→Int} (p:Pot h d):∀ {l:List Stp} {f t:Int},IsW h f l t→d t.toNat≤d f.toNat+(l.map (cost h)).sum
 | [],f,t,a=>by
  have:=a.2 0;simp [fol] at this;rw [this];simp
 | x :: l,f,t,a=>by
  have e:=a.2 0;rw [fol] at e
  by_cases hs:src h x=f
  ·have a':IsW h (dst h x) l t:=by
    rw [if_pos hs] at e;have e1:(fol h (0+cost h x) (dst h x) l).2.2=true:=by rw [e]
    have:=zvd (fun y hy=>a.1 y (by simp [hy])) e1
    rwa [e] at this
   have h1:=p.way a';have h2:=p x (a.1 x (by simp));rw [hs] at h2;simp only [List.map_cons,List.sum_cons];omega
  ·rw [if_neg hs] at e;simp at e
theorem Pot.noRing {h:Hall} {d:Nat→Int} (p:Pot h d) {l:List Stp} (ok:∀ x∈l,za5 h x=true):zgv h l=false:=by
 cases e:zgv h l with
 | false=>rfl
 | true =>
  obtain ⟨f,a,hn,_⟩:=z3r ok e;have:=p.way a;omega
section
variable {h:Hall} (v:Valid h) {st k:Nat} {s0 s:WSt} {r t:Nat→Nat} {now:Nat} {D:Nat→Nat→Prop} (I:Inv h st k s0 s r t now D)
include v I
theorem Inv.place {q:Nat} (hq:1≤r q):(q:Int)≤h.n:=by
 obtain ⟨p,_,b2,_,b4,_⟩:=I.bet q hq;have:=zio v b2;omega
theorem Inv.befIn:zac7 s:=fun i hi=>by
 have n10:=v.n10
 by_cases hr:1≤r i
 ·obtain ⟨p,b1,b2,b3,_⟩:=I.bet i hr
  have:=zio v b2;omega
 ·have:=I.befz i (by omega)
  omega
theorem Inv.back {a:Nat}:∀ (K c:Nat),(∀ m,m < K→1≤r (itB s m c)∧itB s m c≠a)→itB s K c=a →
  Chain s a K c∧IsW h a (zfx s K c).reverse c∧((zfx s K c).map (cost h)).sum+s.sums a≤s.sums c∧(((zfx s K c).map (cost h)).sum+s.sums a < s.sums c∨t a≤t c)
 | 0,c,_,e=>by
  have e':c=a:=e;subst e';exact ⟨rfl,IsW.nil _ _,by simp [zfx],.inr (Nat.le_refl _)⟩
 | K+1,c,hb,e=>by
  obtain ⟨hc,hne⟩:=hb 0 (by omega);have hc:1≤r c:=hc;have hne:c≠a:=hne;have n10:=v.n10;have hpl:=I.place v hc;obtain ⟨p,b1,b2,b3,b4,b5,b6,b7,b8,b9,b10⟩:=I.bet c hc;have hin:=zio v b2;have hp:(s.before c).toNat=p:=by omega
  obtain ⟨i1,i2,i3,i4⟩:=Inv.back K p (fun m hm=>by have:=hb (m+1) (by omega);rwa [itB,hp] at this) (by rwa [itB,hp] at e);refine ⟨⟨hne,by omega,by omega,by omega,by rw [hp];exact i1⟩,?_,?_,?_⟩
  ·rw [zfx,hp,List.reverse_cons]
   have:=i2.snoc b2 b3
   rwa [b4] at this
  ·rw [zfx,hp]
   simp only [List.map_cons,List.sum_cons];omega
  ·rw [zfx,hp]
   simp only [List.map_cons,List.sum_cons]
   rcases i4 with i4 | i4
   ·left;omega
   ·by_cases ht:t c < t p
    ·left;have:=b7 ht;omega
    ·right;omega
theorem Inv.cycle {q:Nat} (hq:∀ m,m≤h.n.toNat+1→1≤r (itB s m q)) :
  ∃ K,K≤11∧Chain s (itB s 11 q) K (s.before (itB s 11 q)).toNat∧IsW h (itB s 11 q) (s.by_ (itB s 11 q) :: zfx s K (s.before (itB s 11 q)).toNat).reverse (itB s 11 q) ∧
   ((s.by_ (itB s 11 q) :: zfx s K (s.before (itB s 11 q)).toNat).map (cost h)).sum < 0:=by
 have n1:=v.n1;have n10:=v.n10;obtain ⟨i,j,hij,hj,e⟩:=z8u (h.n.toNat+1) (fun m=>itB s m q) fun m hm=>by have:=I.place v (hq m hm);show itB s m q < _;omega
 have e:itB s i q=itB s j q:=e;have per:∀ m,i≤m→itB s (m+(j - i)) q=itB s m q:=fun m hm=>by
  have h1:=zmo s i (m - i) q;have h2:=zmo s j (m - i) q;rw [show i+(m - i)=m by omega] at h1;rw [show j+(m - i)=m+(j - i) by omega] at h2;rw [← h1,← h2,e]
 have all:∀ m,1≤r (itB s m q):=by
  intro m
  induction m using Nat.strongRecOn with
  | _ m ih =>
   by_cases hm:m≤h.n.toNat+1
   ·exact hq m hm
   ·have:=per (m - (j - i)) (by omega)
    rw [show m - (j - i)+(j - i)=m by omega] at this;rw [this];exact ih _ (by omega)
 obtain ⟨a,ha⟩:∃ a,a=itB s 11 q:=⟨_,rfl⟩
 have alla:∀ m,1≤r (itB s m a):=fun m=>by rw [ha,zmo];exact all _
 have ret:itB s (j - i) a=a:=by rw [ha,zmo];exact per 11 (by omega)
 rw [← ha];obtain ⟨p,b1,b2,b3,b4,b5,b6,b7,b8,b9,b10⟩:=I.bet a (alla 0);have hin:=zio v b2;have hp:(s.before a).toNat=p:=by omega
 have h1:∃ K,itB s K p=a:=⟨j - i - 1,by
  have:itB s (j - i - 1+1) a=a:=by rw [show j - i - 1+1=j - i by omega];exact ret
  rwa [itB,hp] at this⟩
 obtain ⟨K,hK,hmin⟩:=leastN h1;have hK11:K≤11:=by
  by_cases hh:K≤11
  ·exact hh
  ·have:itB s (j - i - 1+1) a=a:=by rw [show j - i - 1+1=j - i by omega];exact ret
   rw [itB,hp] at this;exact absurd this (hmin _ (by omega))
 obtain ⟨c1,c2,c3,c4⟩:=Inv.back v I (a:=a) K p (fun m hm=>⟨by have:=alla (m+1);rwa [itB,hp] at this,hmin m hm⟩) hK;refine ⟨K,hK11,by rw [hp];exact c1,?_,?_⟩
 ·rw [hp,List.reverse_cons]
  have:=c2.snoc b2 b3
  rwa [b4] at this
 ·rw [hp]
  simp only [List.map_cons,List.sum_cons]
  rcases c4 with c4 | c4
  ·omega
  ·have:=b7 (by omega);omega
end
def Dep (h:Hall) (d:Nat→Int) (st:Nat):Nat→Nat→Prop
 | 0,to=>to=st
 | K+1,to=>∃ (x:Stp) (p:Nat),za5 h x=true∧dst h x=(to:Int)∧src h x=(p:Int)∧d to=d p+cost h x∧Dep h d st K p
structure Low (h:Hall) (st:Nat) (s:WSt):Prop where
 pot:Pot h s.sums
 st0:s.sums st=0
 lo:∀ i:Nat,(i:Int)≤h.n→s.sums i≠zaw
 chain:∀ to:Nat,(to:Int)≤h.n→∃ K,K≤11∧Chain s st K to∧IsW h st (zfx s K to).reverse to∧((zfx s K to).reverse.map (cost h)).sum=s.sums to
 dep:∀ to:Nat,(to:Int)≤h.n→∃ K,K≤h.n.toNat+1∧Dep h s.sums st K to
theorem z0k {h:Hall} {i:Nat} (hi:(i:Int) < h.n) (b:Bool):za5 h ⟨true,i,b⟩=true:=by simp [za5];omega
theorem join {h:Hall} (v:Valid h) {d:Nat→Int} {st:Nat} (hst:(st:Int)≤h.n) (hb:∀ i,d i=zaw∨d i≤20000000000) (hs:d st≠zaw)
  (hf:∀ x,za5 h x=true→d (src h x).toNat=zaw∨d (dst h x).toNat≤d (src h x).toNat+cost h x):∀ i:Nat,(i:Int)≤h.n→d i≠zaw:=by
 have m0:=v.m0;have m1:=v.m1;have up:∀ j:Nat,((st+j:Nat):Int)≤h.n→d (st+j)≠zaw:=by
  intro j
  induction j with
  | zero=>exact fun _=>hs
  | succ j ih =>
   intro hj;have h1:=ih (by omega);have h2:=hf ⟨true,((st+j:Nat):Int),false⟩ (z0k (by omega) _);simp [src,dst,cost,zb3] at h2;have e1:(((st:Int)+(j:Int)).toNat)=st+j:=by omega
   have e2:(((st:Int)+(j:Int)+1).toNat)=st+(j+1):=by omega
   rw [e1,e2] at h2;have h3:=hb (st+j);have h4:d (st+(j+1))≤d (st+j)+h.most:=by
    rcases h2 with h2 | h2
    ·exact absurd h2 h1
    ·exact h2
   unfold zaw at *;omega
 have down:∀ j:Nat,j≤st→d (st - j)≠zaw:=by
  intro j
  induction j with
  | zero=>exact fun _=>hs
  | succ j ih =>
   intro hj;have h1:=ih (by omega);have h2:=hf ⟨true,((st - (j+1):Nat):Int),true⟩ (z0k (by omega) _);simp [src,dst,cost,zb3] at h2;have e2:st - (j+1)+1=st - j:=by omega
   rw [e2] at h2;have h3:=hb (st - j);have h4:d (st - (j+1))≤d (st - j):=by
    rcases h2 with h2 | h2
    ·exact absurd h2 h1
    ·exact h2
   unfold zaw at *;omega
 intro i hi
 by_cases hle:i≤st
 ·have:=down (st - i) (by omega)
  rwa [show st - (st - i)=i by omega] at this
 ·have:=up (i - st) (by omega)
  rwa [show st+(i - st)=i by omega] at this
theorem zve {h:Hall} (v:Valid h) (st:Nat):∃ k r t now,Inv h st k (leastM h st).1 (leastM h st).1 r t now (fun _ _=>False) ∧
  ((leastM h st).2=true→Fix h (leastM h st).1)∧((leastM h st).2=false→∃ q:Nat,(leastM h st).1.ringed=q∧r q=h.n.toNat+2):=by
 obtain ⟨k,r,t,now,I,h1,h2⟩:=z1g v (h.n.toNat+2) 1 (zfb st) _ _ _ (Nat.le_refl _) (zaba h st) ⟨0,rfl,rfl⟩;refine ⟨k,r,t,now,I,h1,fun e=>?_⟩;obtain ⟨q,a,b⟩:=h2 e;exact ⟨q,a,by omega⟩
theorem zjk {h:Hall} (v:Valid h) {st:Nat} (hst:(st:Int)≤h.n) (e:(leastM h st).2=true):Low h st (leastM h st).1:=by
 have n1:=v.n1;have n10:=v.n10;obtain ⟨k,r,t,now,I,hF,_⟩:=zve v st;have F:=hF e;have hbd:∀ i,(leastM h st).1.sums i=zaw∨(leastM h st).1.sums i≤20000000000:=fun i=>by
  have hb:=zxb (zpb v) (N:=h.n.toNat+1) (by omega) (h.n.toNat+2) 0 (zfb st) (zxa st) (by omega)
  rcases hb i with h1 | h1
  ·exact .inl h1
  ·right;unfold leastM;omega
 generalize (leastM h st).1=s at *;have hfx:∀ x,za5 h x=true→s.sums (src h x).toNat=zaw∨s.sums (dst h x).toNat≤s.sums (src h x).toNat+cost h x:=fun x o=>by
  have hin:=zio v o;obtain ⟨a,ha,hle⟩:=zad0 v o;have:=F (src h x).toNat (dst h x).toNat a (by rw [Int.toNat_of_nonneg (by omega),Int.toNat_of_nonneg (by omega)];exact ha);omega
 have hst0:s.sums st≠zaw:=by
  by_cases hr:1≤r st
  ·have:=I.fin st hr;omega
  ·rw [I.zero st (by omega)]
   unfold zfb zaw;simp
 have lo:=join v hst hbd hst0 hfx;have pot:Pot h s.sums:=fun x o=>by
  have hin:=zio v o
  rcases hfx x o with h1 | h1
  ·exact absurd h1 (lo _ (by omega))
  ·exact h1
 have ex:∀ to:Nat,(to:Int)≤h.n→∃ K,K≤h.n.toNat+1∧itB s K to=st∧(∀ m,m < K→1≤r (itB s m to))∧r st=0:=by
  intro to hto;have h1:∃ m,r (itB s m to)=0∧m≤h.n.toNat+1:=by
   by_cases hex:∃ m,r (itB s m to)=0∧m≤h.n.toNat+1
   ·exact hex
   ·exfalso
    obtain ⟨K,_,_,hw,hn⟩:=Inv.cycle v I (q:=to) fun m hm=>by
     by_cases hz:r (itB s m to)=0
     ·exact absurd ⟨m,hz,hm⟩ hex
     ·omega
    have:=pot.way hw;have e2:∀ l:List Stp,(l.reverse.map (cost h)).sum=(l.map (cost h)).sum:=fun l=>by rw [List.map_reverse,List.sum_reverse]
    rw [e2] at this;omega
  obtain ⟨K,⟨hz,hK⟩,hmin⟩:=leastN h1;have hall:∀ m,m < K→1≤r (itB s m to):=fun m hm=>by
   by_cases hzz:r (itB s m to)=0
   ·exact absurd ⟨hzz,by omega⟩ (hmin m hm)
   ·omega
  have hst:itB s K to=st:=by
   cases K with
   | zero =>
    have hz':r to=0:=hz;have h2:=I.zero to hz';unfold zfb at h2;simp only at h2
    by_cases hts:to=st
    ·exact hts
    ·rw [if_neg hts] at h2
     exact absurd h2 (lo to hto)
   | succ K =>
    obtain ⟨p,b1,_,_,_,_,_,_,_,_,b10⟩:=I.bet _ (hall K (by omega));rw [zt1,b1] at hz ⊢;exact b10 hz
  exact ⟨K,hK,hst,hall,by rw [← hst];exact hz⟩
 have rst:r st=0:=by obtain ⟨_,_,_,_,h0⟩:=ex st hst;exact h0
 have st0:s.sums st=0:=by rw [I.zero st rst];unfold zfb;simp
 have hback:=fun (to K:Nat) (hK:itB s K to=st) (hall:∀ m,m < K→1≤r (itB s m to))=>Inv.back v I (a:=st) K to (fun m hm=>⟨hall m hm,fun hh=>by have:=hall m hm;rw [hh] at this;omega⟩) hK
 have hsum:∀ l:List Stp,(l.reverse.map (cost h)).sum=(l.map (cost h)).sum:=fun l=>by rw [List.map_reverse,List.sum_reverse]
 refine ⟨pot,st0,lo,fun to hto=>?_,fun to hto=>?_⟩
 ·obtain ⟨K,hK,hi,hall,_⟩:=ex to hto
  obtain ⟨c1,c2,c3,_⟩:=hback to K hi hall;have:=pot.way c2;rw [hsum] at this;simp only [Int.toNat_natCast] at this;exact ⟨K,by omega,c1,c2,by rw [hsum];omega⟩
 ·obtain ⟨K,hK,hi,hall,_⟩:=ex to hto
  refine ⟨K,hK,?_⟩;clear hK hto
  induction K generalizing to with
  | zero=>exact hi
  | succ K ih =>
   obtain ⟨p,b1,b2,b3,b4,b5,b6,_⟩:=I.bet to (hall 0 (by omega));have hp:(s.before to).toNat=p:=by omega
   have hpt:=pot _ b2;rw [b3,b4] at hpt;simp only [Int.toNat_natCast] at hpt;refine ⟨s.by_ to,p,b2,b4,b3,by omega,ih p (by rwa [itB,hp] at hi) fun m hm=>?_⟩;have:=hall (m+1) (by omega)
   rwa [itB,hp] at this
theorem zvf {s:WSt} {a:Nat}:∀ {K K' c:Nat},Chain s a K c→Chain s a K' c→K=K'
 | 0,0,_,_,_=>rfl
 | 0,K'+1,c,h1,h2=>absurd h1 h2.1
 | K+1,0,c,h1,h2=>absurd h2 h1.1
 | K+1,K'+1,c,h1,h2=>by rw [zvf h1.2.2.2.2 h2.2.2.2.2]
theorem z3s {h:Hall} (v:Valid h) {st:Nat} (e:(leastM h st).2=false):zaff (leastM h st).1 ∧
  ∀ K,Chain (leastM h st).1 (ringAt (leastM h st).1) K ((leastM h st).1.before (ringAt (leastM h st).1)).toNat →
   K≤11∧zgv h (zkg (leastM h st).1 K).reverse=true∧∀ x∈(zkg (leastM h st).1 K).reverse,za5 h x=true:=by
 have n1:=v.n1;have n10:=v.n10;obtain ⟨k,r,t,now,I,_,hR⟩:=zve v st;obtain ⟨q,hq,hrq⟩:=hR e;generalize (leastM h st).1=s at *;have key:∀ m,m≤h.n.toNat+2→h.n.toNat+2≤r (itB s m q)+m:=by
  intro m
  induction m with
  | zero=>intro _;show _≤r q+0;omega
  | succ m ih =>
   intro hm;have h1:=ih (by omega);obtain ⟨p,b1,_,_,_,_,_,_,_,b9,_⟩:=I.bet (itB s m q) (by omega);rw [zt1,b1];simp only [Int.toNat_natCast];omega
 obtain ⟨K,hK,hc,hw,hn⟩:=Inv.cycle v I (q:=q) fun m hm=>by have:=key m (by omega);omega
 have hra:ringAt s=itB s 11 q:=by unfold ringAt;rw [hq,Int.toNat_natCast]
 have hpl:=I.place v (q:=q) (by omega);rw [hra];refine ⟨⟨I.befIn v,by omega,by omega,K,by omega,by rw [hra];exact hc⟩,fun K' hK'=>?_⟩;obtain rfl:=zvf hc hK';refine ⟨hK,?_,?_⟩
 ·refine z6g (f:=itB s 11 q) ?_ ?_
  ·unfold zkg;rw [hra];exact hw
  ·unfold zkg;rw [hra,List.map_reverse,List.sum_reverse];exact hn
 ·unfold zkg;rw [hra];exact hw.1
section
variable {h:Hall} (v:Valid h)
include v
end
def kept (l:List Int):Nat→List Cnt→List Cnt
 | _,[]=>[]
 | i,c :: cs=>if l.contains (i:Int) then kept l (i+1) cs else c :: kept l (i+1) cs
def wo (h:Hall) (l:List Int):Hall:={ h with cs:=kept l 0 h.cs }
def start (l:List Int):Int:=match l.getLast? with | none=>0 | some a=>a+1
theorem zkh {h:Hall} (v:Valid h) {d:Nat→Int} (p:Pot h d) (st:Nat):(leastM h st).2=true:=by
 cases e:(leastM h st).2 with
 | true=>rfl
 | false =>
  obtain ⟨⟨_,_,_,K,_,hc⟩,hr⟩:=z3s v e;obtain ⟨_,h1,h2⟩:=hr K hc;rw [p.noRing h2] at h1;cases h1
theorem zki {h:Hall} (v:Valid h) {st:Nat} (hst:(st:Int)≤h.n) (e:(leastM h st).2=true):Pot h (leastM h st).1.sums:=(zjk v hst e).pot
theorem zqt {h:Hall} (v:Valid h) {st st':Nat} (hst:(st:Int)≤h.n):(leastM h st).2=true→(leastM h st').2=true:=fun e=>zkh v (zki v hst e) st'
theorem zabb {h:Hall} (v:Valid h) {st:Nat} (hst:(st:Int)≤h.n):(leastM h st).2=(leastM h 0).2:=by
 have n1:=v.n1;cases e:(leastM h st).2 with
 | true=>exact (zqt v hst e).symm
 | false =>
  cases e0:(leastM h 0).2 with
  | false=>rfl
  | true=>rw [zqt (st':=st) v (by omega) e0] at e;cases e
def Agr (h:Hall):Prop:=∃ d,Pot h d
theorem agr_iff {h:Hall} (v:Valid h):(leastM h 0).2=true↔Agr h :=
 ⟨fun e=>⟨_,zki v (by have:=v.n1;omega) e⟩,fun ⟨_,p⟩=>zkh v p 0⟩
def pre (t:List Int) (i:Nat):Int:=(t.take i).sum
theorem pre_succ {t:List Int} {i:Nat} (h:i < t.length):pre t (i+1)=pre t i+t[i]:=by
 unfold pre;exact zp9 t i h
theorem zzo (t:List Int) (f k:Nat):((t.drop f).take k).sum=pre t (f+k) - pre t f:=by
 unfold pre;have:t.take (f+k)=t.take f ++ (t.drop f).take k:=by rw [List.take_add]
 rw [this,List.sum_append];omega
theorem z1h {t:List Int} {f to:Int} (h0:0≤f) (h1:f≤to+1):sm t f to=pre t (to+1).toNat - pre t f.toNat:=by
 unfold sm;rw [zzo];have:f.toNat+(to+1 - f).toNat=(to+1).toNat:=by omega
 rw [this]
theorem zt2 (d:Nat→Int) (N:Nat):∀ i,i≤N→pre ((List.range N).map fun j=>d (j+1) - d j) i=d i - d 0
 | 0,_=>by simp [pre]
 | i+1,h=>by
  rw [pre_succ (by simp;omega),zt2 d N i (by omega)];simp;omega
theorem inR_iff (lo hi n:Int):inR lo hi n=true↔lo≤n∧n≤hi:=by
 unfold inR;simp
structure IsTruth (h:Hall) (t:List Int):Prop where
 len:(t.length:Int)=h.n
 all:∀ x∈t,0≤x∧x≤h.most
 cnt:∀ c∈h.cs,c.lo≤sm t c.f c.t∧sm t c.f c.t≤c.hi
theorem truthE_iff {h:Hall} {t:List Int}:zev h t=0↔chk h=0∧IsTruth h t:=by
 unfold zev
 by_cases hc:chk h=0
 ·rw [if_neg (show ¬ (chk h≠0) from fun hh=>hh hc)]
  by_cases hl:(t.length:Int)=h.n
  ·rw [if_neg (show ¬ ((t.length:Int)≠h.n) from fun hh=>hh hl)]
   cases ha:t.all (inR 0 h.most) with
   | false =>
    rw [if_pos rfl];refine ⟨fun hh=>by omega,fun ⟨_,i⟩=>?_⟩;have:t.all (inR 0 h.most)=true:=List.all_eq_true.2 fun x hx=>(inR_iff _ _ _).2 (i.all x hx)
    rw [this] at ha;cases ha
   | true =>
    rw [if_neg (by simp)];cases hcs:h.cs.any (zl2 t) with
    | true =>
     rw [if_pos rfl];refine ⟨fun hh=>by omega,fun ⟨_,i⟩=>?_⟩;obtain ⟨c,hc1,hc2⟩:=List.any_eq_true.1 hcs;have:=(inR_iff _ _ _).2 (i.cnt c hc1);unfold zl2 at hc2;rw [this] at hc2;cases hc2
    | false =>
     rw [if_neg (by simp)];refine ⟨fun _=>⟨hc,hl,fun x hx=>(inR_iff _ _ _).1 (List.all_eq_true.1 ha x hx),fun c hcc=>?_⟩,fun _=>rfl⟩;have:=List.any_eq_false.1 hcs c hcc;unfold zl2 at this;exact (inR_iff _ _ _).1 (by simpa using this)
  ·rw [if_pos hl]
   exact ⟨fun hh=>by omega,fun ⟨_,i⟩=>absurd i.len hl⟩
 ·rw [if_pos hc]
  exact ⟨fun hh=>absurd hh hc,fun ⟨hh,_⟩=>absurd hh hc⟩
theorem zad1 {h:Hall} {d:Nat→Int} (p:Pot h d) {c:Cnt} (hc:c∈h.cs):c.lo≤d (c.t+1).toNat - d c.f.toNat∧d (c.t+1).toNat - d c.f.toNat≤c.hi:=by
 obtain ⟨i,hi,rfl⟩:=List.getElem_of_mem hc;have ok:∀ b,za5 h ⟨false,i,b⟩=true:=fun b=>by simp [za5];omega
 have p1:=p _ (ok false);have p2:=p _ (ok true);simp [src,dst,cost,zb3,hi] at p1 p2;omega
theorem pot_win {h:Hall} {d:Nat→Int} (p:Pot h d) {i:Nat} (hi:(i:Int) < h.n):0≤d (i+1) - d i∧d (i+1) - d i≤h.most:=by
 have p1:=p _ (z0k hi false);have p2:=p _ (z0k hi true);simp [src,dst,cost,zb3] at p1 p2;have e:((i:Int)+1).toNat=i+1:=by omega
 omega
section
variable {h:Hall} (v:Valid h)
include v
theorem z1i {d:Nat→Int} (p:Pot h d):IsTruth h ((List.range h.n.toNat).map fun j=>d (j+1) - d j):=by
 have n1:=v.n1;refine ⟨by simp;omega,fun x hx=>?_,fun c hc=>?_⟩
 ·obtain ⟨j,hj,rfl⟩:=List.mem_map.1 hx
  have:=List.mem_range.1 hj;exact pot_win p (by omega)
 ·have hcv:=v.cs c hc
  have:=zad1 p hc;rw [z1h (by omega) (by omega),zt2 _ _ _ (by omega),zt2 _ _ _ (by omega)];omega
theorem pot_of_truth {t:List Int} (i:IsTruth h t):Pot h (pre t):=by
 intro x o;have hlen:=i.len;have hin:=zhw v o;have key:(zb3 h x).lo≤sm t (zb3 h x).f (zb3 h x).t∧sm t (zb3 h x).f (zb3 h x).t≤(zb3 h x).hi:=by
  unfold za5 at o;unfold zb3 at hin ⊢
  by_cases hw:x.win=true
  ·rw [if_pos hw] at o hin ⊢
   simp only [Bool.and_eq_true,decide_eq_true_eq] at o hin;obtain ⟨k,hk⟩:∃ k:Nat,x.idx=k:=⟨x.idx.toNat,by omega⟩
   have hkl:k < t.length:=by omega
   have:=i.all t[k] (List.getElem_mem hkl);simp only;rw [z1h (by omega) (by omega),hk,show ((k:Int)+1).toNat=k+1 by omega,pre_succ hkl];simp only [Int.toNat_natCast];omega
  ·rw [if_neg hw] at o hin ⊢
   simp only [Bool.and_eq_true,decide_eq_true_eq] at o;have hl:x.idx.toNat < h.cs.length:=by omega
   have e:h.cs.getD x.idx.toNat ⟨0,0,0,0⟩=h.cs[x.idx.toNat]:=by simp [List.getD,hl]
   rw [e];exact i.cnt _ (List.getElem_mem hl)
 rw [z1h (by omega) (by omega)] at key;unfold src dst cost
 split<;>omega
end
theorem z8v {h:Hall} (hc:chk h=0) (e:(leastM h 0).2=true):zev h (zcz h)=0:=by
 have v:=valid_of_chk hc;exact truthE_iff.2 ⟨hc,z1i v (zki v (st:=0) (by have:=v.n1;omega) e)⟩
theorem truthL_ok {h:Hall} (e:truthErr h=0):zev h (truthL h)=0:=by
 unfold truthL;rw [if_pos e];unfold truthErr at e
 by_cases hc:chk h=0
 ·rw [if_neg (show ¬ (chk h≠0) from fun hh=>hh hc)] at e
  refine z8v hc ?_
  cases hl:(leastM h 0).2 with
  | true=>rfl
  | false=>rw [hl] at e;simp at e
 ·rw [if_pos hc] at e;exact absurd e hc
def ds (h:Hall) (a b:Nat):Int:=(leastM h a).1.sums b
section
variable {h:Hall} (v:Valid h) (g:Agr h)
include v g
theorem z1j (a:Nat):(leastM h a).2=true:=by
 obtain ⟨d,p⟩:=g;exact zkh v p a
theorem ds_pot {a:Nat} (ha:(a:Int)≤h.n):Pot h (ds h a):=(zjk v ha (z1j v g a)).pot
theorem ds_self {a:Nat} (ha:(a:Int)≤h.n):ds h a a=0:=(zjk v ha (z1j v g a)).st0
theorem ds_le {d:Nat→Int} (p:Pot h d) {a b:Nat} (ha:(a:Int)≤h.n) (hb:(b:Int)≤h.n):d b≤d a+ds h a b:=by
 obtain ⟨K,_,_,hw,hs⟩:=(zjk v ha (z1j v g a)).chain b hb;have:=p.way hw;rw [hs] at this;simpa [ds] using this
end
end Go.Proofs.YtnoffnkmibjndaaGreat.Cu
