/-
  The walk of finishes (its iterator is not walked yet), and what it yields, plainly.
-/
import Derived.Test.YtdamgacabfbpjaaGreatPd
import Derived.Test.YtdamgacabfbpjaaGreatBa
import Derived.Test.YtdamgacabfbpjaaGreatBb
import Derived.Test.YtdamgacabfbpjaaGreatPa
import Derived.Lib.SliceRun
import Derived.Test.YtdamgacabfbpjaaGreatPe
import Derived.Laws.CopyOwn
import Derived.Laws.CopyRow
set_option maxRecDepth 200000
set_option maxHeartbeats 0
set_option linter.unusedSimpArgs false
set_option linter.unusedVariables false
namespace Go.Proofs.YtdamgacabfbpjaaGreat
open Go.RowKit Go.Shelf
theorem z8o {l:List Int}:rising l=true↔l.Pairwise (· < ·):=by
 constructor
 ·intro h
  rw [List.pairwise_iff_getElem];intro i j hi hj hij;have:=zzm h hij hj
  rwa [gt_get hi,gt_get hj]
 ·intro h
  rw [List.pairwise_iff_getElem] at h;unfold rising;rw [Bool.not_eq_true',List.any_eq_false];intro i hi;have hi':=List.mem_range.1 hi;unfold flat
  by_cases h0:0 < i
  ·have h1:=h (i - 1) i (by omega) hi' (by omega)
   rw [gt_get hi',gt_get (show i - 1 < l.length by omega)] at *;simp;omega
  ·simp;omega
theorem z6l:∀ {g left rest:List Int},left.Perm (g ++ rest)→∃ l,zdh left g=some l∧l.Perm rest
 | [],left,rest,h=>⟨left,rfl,h⟩
 | r :: g,left,rest,h=>by
  have hr:r∈left:=h.symm.subset (by simp);unfold zdh;rw [if_pos hr];refine z6l ((List.perm_cons r).1 ((List.perm_cons_erase hr).symm.trans h))
theorem z6m:∀ {fs:List (List Int)} {left rest:List Int},left.Perm (fs.flatten ++ rest)→(∀ g∈fs,g≠[]∧rising g=true)→∃ l,zek left fs=some l∧l.Perm rest
 | [],left,rest,h,_=>⟨left,rfl,h⟩
 | g :: fs,left,rest,h,hg=>by
  have h1:=hg g (by simp);unfold zek;rw [if_neg (by rw [not_or];exact ⟨h1.1,by simp [h1.2]⟩)];rw [List.flatten_cons,List.append_assoc] at h;obtain ⟨l,e,hl⟩:=z6l h;rw [e];exact z6m (fs:=fs) hl fun x hx=>hg x (by simp [hx])
theorem zzw {b:Bk} {fs:List (List Int)} (h0:zai b=0) (h:zdw b fs):zbl b fs=0:=by
 have hp:(za9 b).Perm (fs.flatten ++ []):=by rw [List.append_nil];exact h.perm
 obtain ⟨l,e,hl⟩:=z6m hp fun g hg=>⟨h.ne g hg,h.up g hg⟩
 have:l=[]:=List.perm_nil.1 hl;subst this;unfold zbl;rw [if_neg (fun e=>e h0),if_pos e]
abbrev Wd:=Int × Int × Int
structure Rc where
 n:Int
 ws:List Wd
def zem (n:Int) (w:Wd):Bool:=decide (w.1≠w.2.1) && (decide (0≤w.1∧w.1 < n) && decide (0≤w.2.1∧w.2.1 < n)) && decide (0≤w.2.2∧w.2.2≤2)
def zap (h:Rc):Int:=if h.n < 2∨5 < h.n then 3 else if 12 < h.ws.length then 6 else if h.ws.any (fun w=>!zem h.n w)=true then 2 else 0
def pl (f:List Int) (i:Nat):Int:=f.getD i 0
def zfr (f:List Int) (w:Wd):Bool:=if w.2.2=0 then decide (pl f w.1.toNat < pl f w.2.1.toNat) else if w.2.2=1 then decide (pl f w.1.toNat=pl f w.2.1.toNat) else decide (pl f w.1.toNat≤pl f w.2.1.toNat)
def zck (ws:List Wd) (f:List Int):Bool:=ws.all (zfr f)
def below (f:List Int) (x:Int) (k:Nat):Nat:=(List.range k).countP fun j=>decide (pl f j < x)
def zfc (n:Nat) (f:List Int):List Int:=(List.range n).map fun i=>1+(below f (pl f i) n:Int)
def zba (n:Nat) (f:List Int):Bool:=decide (f=zfc n f)
theorem below_le (f:List Int) (x:Int) (k:Nat):below f x k≤k:=by
 unfold below;have:=List.countP_le_length (p:=fun j=>decide (pl f j < x)) (l:=List.range k);simpa using this
theorem zqn (f:List Int) (x:Int) (k:Nat):below f x (k+1)=below f x k+if pl f k < x then 1 else 0:=by
 unfold below;rw [List.range_succ,List.countP_append]
 by_cases h:pl f k < x<;>simp [h]
theorem zjh (n:Nat) (f:List Int):(zfc n f).length=n:=by simp [zfc]
theorem zyk {n:Nat} (f:List Int) {i:Nat} (h:i < n):pl (zfc n f) i=1+(below f (pl f i) n:Int):=by
 unfold pl zfc;rw [List.getD_eq_getElem?_getD,List.getElem?_map,List.getElem?_range h];rfl
theorem z3z {f g:List Int} {n:Nat} (hf:f.length=n) (hg:g.length=n) (h:∀ i,i < n→pl f i=pl g i):f=g:=by
 apply List.ext_getElem (by omega);intro i h1 h2;have:=h i (by omega);unfold pl at this;rw [List.getD_eq_getElem?_getD,List.getD_eq_getElem?_getD,List.getElem?_eq_getElem h1,List.getElem?_eq_getElem h2] at this;simpa using this
theorem zl7 {n:Nat} {f:List Int} (h:zba n f=true):f.length=n:=by
 have h:f=zfc n f:=by simpa [zba] using h
 rw [h,zjh]
theorem zu6 {n:Nat} {f:List Int} (h:zba n f=true) {i:Nat} (hi:i < n):pl f i=1+(below f (pl f i) n:Int):=by
 have h:f=zfc n f:=by simpa [zba] using h
 have:=zyk f hi;rw [← h] at this;exact this
theorem zadn {f:List Int} {n i:Nat} (h:i < n):below f (pl f i) n < n:=by
 unfold below;have h1:(List.range n).countP (fun j=>decide (pl f j < pl f i)) < (List.range n).length:=by
  rw [List.countP_eq_length_filter];refine List.length_filter_lt_length_iff_exists.2 ⟨i,List.mem_range.2 h,by simp⟩
 simpa using h1
theorem z30 {n:Nat} {f:List Int} (h:zba n f=true) {i:Nat} (hi:i < n):1≤pl f i∧pl f i≤n:=by
 have h1:=zu6 h hi;have h2:=zadn (f:=f) hi;omega
def zb9 (n:Nat):Nat→Nat→List Int
 | 0,_=>[]
 | k+1,i=>zb9 n k (i / n) ++ [1+((i % n:Nat):Int)]
theorem zca (n:Nat):∀ (k i:Nat),(zb9 n k i).length=k
 | 0,_=>rfl
 | k+1,i=>by simp [zb9,zca n k]
theorem zaba {n:Nat}:∀ {f:List Int},(∀ x∈f,1≤x∧x≤n)→∃ i,i < n ^ f.length∧zb9 n f.length i=f:=by
 intro f
 induction h:f.length generalizing f with
 | zero =>
  intro _;have:f=[]:=List.length_eq_zero_iff.1 h;subst this;exact ⟨0,by simp,rfl⟩
 | succ k ih =>
  intro hb;obtain ⟨g,d,e⟩:∃ g d,f=g ++ [d]:=by
   rcases List.eq_nil_or_concat f with e | ⟨g,d,e⟩
   ·subst e;cases h
   ·exact ⟨g,d,by rw [e,List.concat_eq_append]⟩
  subst e;have hg:g.length=k:=by simpa using h
  obtain ⟨i,h1,h2⟩:=ih hg (fun x hx=>hb x (by simp [hx]));obtain ⟨h3,h4⟩:=hb d (by simp);have hn:0 < n:=by omega
  obtain ⟨e,he⟩:∃ e:Nat,d=1+(e:Int):=⟨(d - 1).toNat,by omega⟩
  have hen:e < n:=by omega
  refine ⟨n * i+e,?_,?_⟩
  ·rw [Nat.pow_succ,Nat.mul_comm (n ^ k)]
   have:n * (i+1)≤n * n ^ k:=Nat.mul_le_mul_left _ h1;rw [Nat.mul_add] at this;omega
  ·show zb9 n k ((n * i+e) / n) ++ [1+(((n * i+e) % n:Nat):Int)]=_
   rw [Nat.mul_add_div hn,Nat.div_eq_of_lt hen,Nat.add_zero,Nat.mul_add_mod,Nat.mod_eq_of_lt hen,h2,he]
def zb5 (n:Nat) (k:Nat):List (List Int):=((List.range k).map (zb9 n n)).filter (zba n)
def zgt (n:Nat):List (List Int):=zb5 n (n ^ n)
theorem zlf (n k:Nat):zb5 n (k+1)=zb5 n k ++ if zba n (zb9 n n k)=true then [zb9 n n k] else []:=by
 unfold zb5;rw [List.range_succ,List.map_append,List.filter_append];cases h:zba n (zb9 n n k)<;>simp [h]
theorem z8p (n k:Nat):(zb5 n k).length≤k:=Nat.le_trans (List.length_filter_le _ _) (by simp)
theorem z31 {n:Nat} {f:List Int}:f∈zgt n↔zba n f=true:=by
 constructor
 ·intro h
  exact (List.mem_filter.1 h).2
 ·intro h
  have hl:=zl7 h;have hb:∀ x∈f,1≤x∧x≤(n:Int):=fun x hx=>by
   obtain ⟨i,hi,e⟩:=List.mem_iff_getElem.1 hx;have:=z30 h (i:=i) (by omega);have e2:pl f i=x:=by unfold pl;rw [List.getD_eq_getElem?_getD,List.getElem?_eq_getElem hi];simpa using e
   rw [e2] at this;exact this
  obtain ⟨i,h1,h2⟩:=zaba hb;rw [hl] at h1 h2;refine List.mem_filter.2 ⟨List.mem_map.2 ⟨i,List.mem_range.2 h1,h2⟩,h⟩
theorem z4y (n:Nat) {k m:Nat} (h:k≤m):∃ r,zb5 n m=zb5 n k ++ r:=by
 obtain ⟨d,rfl⟩:∃ d,m=k+d:=⟨m - k,by omega⟩
 unfold zb5;rw [List.range_add,List.map_append,List.filter_append];exact ⟨_,rfl⟩
def zcb (h:Rc):List (List Int):=(zgt h.n.toNat).filter (zck h.ws)
theorem zth {h:Rc} {f:List Int}:f∈zcb h↔zba h.n.toNat f=true∧zck h.ws f=true:=by
 unfold zcb;rw [List.mem_filter,z31]
def z8q (n:Nat) (l:List Int):Nat:=l.foldl (fun acc d=>acc * n+(d - 1).toNat) 0
theorem zib {n:Nat} (hn:0 < n):∀ {k i:Nat},i < n ^ k→z8q n (zb9 n k i)=i
 | 0,i,h=>by
  simp at h;subst h;rfl
 | k+1,i,h=>by
  have h1:i / n < n ^ k:=by
   rw [Nat.div_lt_iff_lt_mul hn];rw [Nat.pow_succ] at h;exact h
  have ih:=zib hn h1;unfold z8q at *;show (zb9 n k (i / n) ++ [1+((i % n:Nat):Int)]).foldl _ 0=i;rw [List.foldl_append,ih];show i / n * n+(1+((i % n:Nat):Int) - 1).toNat=i;have:=Nat.div_add_mod i n;rw [Nat.mul_comm] at this;omega
theorem zw5 {n:Nat} (hn:0 < n):∀ (t k i:Nat),i % n ^ t=n ^ t - 1→zb9 n (k+t) (i+1)=zb9 n k (i / n ^ t+1) ++ List.replicate t 1
 | 0,k,i,_=>by simp
 | t+1,k,i,h=>by
  have hp:0 < n ^ t:=Nat.pow_pos hn;have e1:n ^ (t+1)=n * n ^ t:=by rw [Nat.pow_succ,Nat.mul_comm]
  have h1:i % n=n - 1:=by
   have h2:i % n ^ (t+1) % n=i % n:=Nat.mod_mod_of_dvd _ (by rw [e1];exact Nat.dvd_mul_right _ _);rw [← h2,h,e1];have h3:n * n ^ t - 1=n * (n ^ t - 1)+(n - 1):=by
    rw [Nat.mul_sub,Nat.mul_one];have:n≤n * n ^ t:=Nat.le_mul_of_pos_right _ hp;omega
   rw [h3,Nat.mul_add_mod,Nat.mod_eq_of_lt (by omega)]
  have h4:i / n % n ^ t=n ^ t - 1:=by
   rw [← Nat.mod_mul_right_div_self,← e1,h,e1];have h3:n * n ^ t - 1=n * (n ^ t - 1)+(n - 1):=by
    rw [Nat.mul_sub,Nat.mul_one];have:n≤n * n ^ t:=Nat.le_mul_of_pos_right _ hp;omega
   rw [h3,Nat.mul_add_div hn,Nat.div_eq_of_lt (by omega),Nat.add_zero]
  have h5:(i+1) / n=i / n+1∧(i+1) % n=0:=by
   have hd:=Nat.div_add_mod i n;have:i+1=n * (i / n+1):=by rw [Nat.mul_add,Nat.mul_one];omega
   constructor
   ·rw [this,Nat.mul_div_cancel_left _ hn]
   ·rw [this,Nat.mul_mod_right]
  show zb9 n (k+t) ((i+1) / n) ++ [1+(((i+1) % n:Nat):Int)]=_;rw [h5.1,h5.2,zw5 hn t k (i / n) h4,Nat.div_div_eq_div_mul,← e1,List.replicate_succ',List.append_assoc];rfl
def dig (n i t:Nat):Nat:=i / n ^ t % n
theorem zzx {n i t:Nat} (hn:0 < n) (h:i % n ^ t=n ^ t - 1) (hd:dig n i t=n - 1):i % n ^ (t+1)=n ^ (t+1) - 1:=by
 have hp:0 < n ^ t:=Nat.pow_pos hn;rw [Nat.pow_succ,Nat.mod_mul,h];unfold dig at hd;rw [hd,Nat.mul_sub,Nat.mul_one];have:n ^ t≤n ^ t * n:=Nat.le_mul_of_pos_right _ hn;omega
def zc1 (n i t:Nat):List Int:=zb9 n (n - t) (i / n ^ t) ++ List.replicate t 1
theorem zhu {n i t:Nat} (h:t≤n):(zc1 n i t).length=n:=by
 unfold zc1;rw [List.length_append,zca,List.length_replicate];omega
theorem zw6 (n i:Nat):zc1 n i 0=zb9 n n i:=by simp [zc1]
theorem z32 {n i t:Nat} (h:t < n):pl (zc1 n i t) (n - 1 - t)=1+(dig n i t:Int):=by
 unfold pl zc1;have e:n - t=(n - 1 - t)+1:=by omega
 rw [List.getD_eq_getElem?_getD,List.getElem?_append_left (by rw [zca];omega),e];show ((zb9 n (n - 1 - t) (i / n ^ t / n) ++ [1+((i / n ^ t % n:Nat):Int)])[n - 1 - t]?).getD 0=_;rw [List.getElem?_append_right (by rw [zca];exact Nat.le_refl _),zca,Nat.sub_self];rfl
theorem zzy {n i t:Nat} (h:t < n):(zc1 n i t).set (n - 1 - t) 1=zc1 n i (t+1):=by
 have e:n - t=(n - 1 - t)+1:=by omega
 unfold zc1;rw [List.set_append_left _ _ (by rw [zca];omega),e];show (zb9 n (n - 1 - t) (i / n ^ t / n) ++ [_]).set (n - 1 - t) 1 ++ _=_;rw [List.set_append_right _ _ (by rw [zca];exact Nat.le_refl _),zca,Nat.sub_self,List.set_cons_zero,Nat.div_div_eq_div_mul,← Nat.pow_succ,show n - (t+1)=n - 1 - t by omega,List.append_assoc,List.replicate_succ];rfl
theorem zl8 {n i t:Nat} (hn:0 < n) (h:t < n) (hf:i % n ^ t=n ^ t - 1) (hd:dig n i t≠n - 1):(zc1 n i t).set (n - 1 - t) (2+(dig n i t:Int))=zb9 n n (i+1):=by
 have e:n - t=(n - 1 - t)+1:=by omega
 have hlt:dig n i t < n:=Nat.mod_lt _ hn;have h1:=zw5 hn t (n - t) i hf;rw [show n - t+t=n by omega] at h1;rw [h1];unfold zc1;rw [List.set_append_left _ _ (by rw [zca];omega)]
 congr 1
 rw [e];show (zb9 n (n - 1 - t) (i / n ^ t / n) ++ [_]).set (n - 1 - t) _=zb9 n (n - 1 - t) ((i / n ^ t+1) / n) ++ [1+(((i / n ^ t+1) % n:Nat):Int)];rw [List.set_append_right _ _ (by rw [zca];exact Nat.le_refl _),zca,Nat.sub_self,List.set_cons_zero];obtain ⟨q,hq⟩:∃ q,q=i / n ^ t:=⟨_,rfl⟩
 unfold dig at hd hlt ⊢;rw [← hq] at hd hlt ⊢;have hdm:=Nat.div_add_mod q n;have h5:(q+1) / n=q / n∧(q+1) % n=q % n+1:=by
  have:q+1=n * (q / n)+(q % n+1):=by omega
  have hs:q % n+1 < n:=by omega
  constructor
  ·rw [this,Nat.mul_add_div hn,Nat.div_eq_of_lt hs,Nat.add_zero]
  ·rw [this,Nat.mul_add_mod,Nat.mod_eq_of_lt hs]
 rw [h5.1,h5.2]
 congr 2
 omega
theorem z33 {n i:Nat} (hi:i < n ^ n) (h:i % n ^ n=n ^ n - 1):i+1=n ^ n:=by
 rw [Nat.mod_eq_of_lt hi] at h;omega
theorem zw7 {n:Nat} (hn:0 < n):∀ k,zb9 n k 0=List.replicate k 1
 | 0=>rfl
 | k+1=>by
  show zb9 n k (0 / n) ++ [1+((0 % n:Nat):Int)]=_;rw [Nat.zero_div,Nat.zero_mod,zw7 hn k,List.replicate_succ'];rfl
theorem zqo {n i t:Nat} (hn:0 < n) (h:t < n) (hi:i < n ^ n) (hd:dig n i t≠n - 1):i+1 < n ^ n:=by
 rcases Nat.lt_or_ge (i+1) (n ^ n) with hc | hc
 ·exact hc
 ·exfalso
  apply hd;have e:i=n ^ n - 1:=by omega
  unfold dig;have hp:0 < n ^ t:=Nat.pow_pos hn;obtain ⟨d,hd⟩:∃ d,n=t+(d+1):=⟨n - t - 1,by omega⟩
  have e2:n ^ n=n ^ t * (n ^ d * n):=by
   rw [← Nat.pow_succ,← Nat.pow_add]
   congr 1
  have hq:0 < n ^ d:=Nat.pow_pos hn;have hm:0 < n ^ d * n:=Nat.mul_pos hq hn;have h1:n ^ t * (n ^ d * n) - 1=n ^ t * (n ^ d * n - 1)+(n ^ t - 1):=by
   rw [Nat.mul_sub,Nat.mul_one];have:n ^ t≤n ^ t * (n ^ d * n):=Nat.le_mul_of_pos_right _ hm;omega
  rw [e,e2,h1,Nat.mul_add_div hp,Nat.div_eq_of_lt (by omega),Nat.add_zero];have h2:n ^ d * n - 1=n * (n ^ d - 1)+(n - 1):=by
   rw [Nat.mul_sub,Nat.mul_one,Nat.mul_comm n];have:n≤n ^ d * n:=Nat.le_mul_of_pos_left _ hq;omega
  rw [h2,Nat.mul_add_mod,Nat.mod_eq_of_lt (by omega)]
def zdi (f:List Int) (k:Nat) (p:Int):List Int:=((List.range k).filter fun r=>decide (pl f r=p)).map fun (r:Nat)=>(r:Int)
def zbb (f:List Int) (n k:Nat):List (List Int):=((List.range k).map fun (p:Nat)=>zdi f n (1+(p:Int))).filter fun g=>decide (g≠[])
def zic (f:List Int) (n:Nat):List (List Int):=zbb f n n
theorem zabb (f:List Int) (k:Nat) (p:Int):zdi f (k+1) p=zdi f k p ++ if pl f k=p then [(k:Int)] else []:=by
 unfold zdi;rw [List.range_succ,List.filter_append,List.map_append]
 congr 1
 by_cases h:pl f k=p<;>simp [h]
theorem zt8 (f:List Int) (n k:Nat):zbb f n (k+1)=zbb f n k ++ if zdi f n (1+(k:Int))=[] then [] else [zdi f n (1+(k:Int))]:=by
 unfold zbb;rw [List.range_succ,List.map_append,List.filter_append]
 congr 1
 by_cases h:zdi f n (1+(k:Int))=[]<;>simp [h]
theorem zqp {f:List Int} {k:Nat} {p x:Int}:x∈zdi f k p↔∃ r:Nat,x=r∧r < k∧pl f r=p:=by
 unfold zdi;rw [List.mem_map]
 constructor
 ·rintro ⟨r,h,e⟩
  obtain ⟨h1,h2⟩:=List.mem_filter.1 h;exact ⟨r,e.symm,List.mem_range.1 h1,by simpa using h2⟩
 ·rintro ⟨r,e,h1,h2⟩
  exact ⟨r,List.mem_filter.2 ⟨List.mem_range.2 h1,by simpa using h2⟩,e.symm⟩
theorem zyl (f:List Int) (k:Nat) (p:Int):(zdi f k p).Pairwise (· < ·):=by
 unfold zdi;rw [List.pairwise_map];exact (List.Pairwise.sublist List.filter_sublist List.pairwise_lt_range).imp fun h=>by omega
theorem z8r (f:List Int) (n k:Nat):(zbb f n k).length≤k:=by
 unfold zbb;exact Nat.le_trans (List.length_filter_le _ _) (by simp)
theorem zj5 {f:List Int} {n k:Nat} {g:List Int}:g∈zbb f n k↔∃ p:Nat,p < k∧g=zdi f n (1+(p:Int))∧g≠[]:=by
 unfold zbb;rw [List.mem_filter,List.mem_map]
 constructor
 ·rintro ⟨⟨p,h,e⟩,h2⟩
  exact ⟨p,List.mem_range.1 h,e.symm,by simpa using h2⟩
 ·rintro ⟨p,h,e,h2⟩
  exact ⟨⟨p,List.mem_range.2 h,e.symm⟩,by simpa using h2⟩
theorem z34 {f:List Int} {n k:Nat} {x:Int}:x∈(zbb f n k).flatten↔∃ r p:Nat,x=r∧r < n∧p < k∧pl f r=1+(p:Int):=by
 rw [List.mem_flatten]
 constructor
 ·rintro ⟨g,hg,hx⟩
  obtain ⟨p,h1,rfl,_⟩:=zj5.1 hg;obtain ⟨r,e,h2,h3⟩:=zqp.1 hx;exact ⟨r,p,e,h2,h1,h3⟩
 ·rintro ⟨r,p,e,h1,h2,h3⟩
  have hx:x∈zdi f n (1+(p:Int)):=zqp.2 ⟨r,e,h1,h3⟩;exact ⟨_,zj5.2 ⟨p,h2,rfl,fun h=>by rw [h] at hx;cases hx⟩,hx⟩
theorem zw8 (f:List Int) (n:Nat):∀ k,(zbb f n k).flatten.Nodup
 | 0=>by simp [zbb]
 | k+1=>by
  rw [zt8,List.flatten_append,List.nodup_append];refine ⟨zw8 f n k,?_,?_⟩
  ·split
   ·simp
   ·simp only [List.flatten_cons,List.flatten_nil,List.append_nil]
    rw [List.nodup_iff_pairwise_ne];exact (zyl f n _).imp fun h=>by omega
  ·intro x hx y hy e
   subst e;obtain ⟨r,p,e1,_,h2,h3⟩:=z34.1 hx
   split at hy
   ·simp at hy
   ·simp only [List.flatten_cons,List.flatten_nil,List.append_nil] at hy
    obtain ⟨r',e2,_,h4⟩:=zqp.1 hy;have:r=r':=by omega
    subst this;omega
theorem z35 {b:Bk} (h:b.scr=[]):za9 b=(List.range b.n.toNat).map fun (i:Nat)=>(i:Int):=by
 unfold za9 runK;rw [List.filter_eq_self];intro a _;unfold zbr;rw [h];rfl
theorem zado {b:Bk} {f:List Int} {n:Nat} (hs:b.scr=[]) (hn:b.n=n) (h0:zai b=0) (hf:zba n f=true):zbl b (zic f n)=0:=by
 refine zzw h0 ⟨zht h0,?_,fun g hg=>?_,fun g hg=>?_⟩
 ·rw [z35 hs,hn]
  refine (List.perm_ext_iff_of_nodup ?_ (zw8 f n n)).2 fun x=>?_
  ·rw [List.nodup_iff_pairwise_ne,List.pairwise_map]
   exact List.pairwise_lt_range.imp fun h=>by omega
  ·show _↔x∈(zbb f n n).flatten
   rw [z34,List.mem_map]
   constructor
   ·rintro ⟨r,hr,e⟩
    have hr:=List.mem_range.1 hr;simp only [Int.toNat_natCast] at hr;have hb:=z30 hf hr;exact ⟨r,(pl f r - 1).toNat,e.symm,hr,by omega,by omega⟩
   ·rintro ⟨r,p,e,h1,_,_⟩
    exact ⟨r,List.mem_range.2 (by simpa using h1),e.symm⟩
 ·obtain ⟨p,_,_,h2⟩:=zj5.1 hg
  exact h2
 ·obtain ⟨p,_,rfl,_⟩:=zj5.1 hg
  exact z8o.2 (zyl f n _)
theorem z4z (l:List Int):(zhb l).Perm l:=List.mergeSort_perm _ _
section
variable {b:Bk} {f:List Int} {n:Nat} (hs:b.scr=[]) (hn:b.n=n) (h2:2≤n) (hf:zba n f=true)
include h2 hf
end
theorem zaie:El 34 28 1:=El.mk' (bytes:=24) (z:=.slice none 0 0) (by kernel_rfl) (by kernel_rfl) rfl (by omega) (by omega)
structure LL (W:World) (B:Nat) (v:Value) (ps:List (Value × List Int)):Prop where
 own:zp W B 28 1 v (ps.map fun x=>[x.1])
 each:∀ x∈ps,zp W B 3 1 x.1 (x.2.map zbn)
theorem LL.nil (W:World) (B:Nat):LL W B (.slice none 0 0) []:=⟨zp.nil _ _ _ _,by simp⟩
theorem LL.ext {W W':World} {B:Nat} {v:Value} {ps:List (Value × List Int)} (h:LL W B v ps) (e:Ext W W'):LL W' B v ps:=⟨h.own.ext e,fun x hx=>(h.each x hx).ext e⟩
theorem LL.base {W:World} {B B':Nat} {v:Value} {ps:List (Value × List Int)} (h:LL W B v ps) (hB:B'≤B):LL W B' v ps:=⟨h.own.base hB,fun x hx=>(h.each x hx).base hB⟩
theorem LL.kept {S:Nat→Prop} {W W':World} {B:Nat} {v:Value} {ps:List (Value × List Int)} (h:LL W B v ps) (k:Kept S W W') (hs:∀ g,B≤g→S g):LL W' B v ps :=
 ⟨h.own.keptAt k fun g _ hg _ _=>hs g hg,fun x hx=>(h.each x hx).keptAt k fun g _ hg _ _=>hs g hg⟩
structure zqq (W:World) (g sz:Nat) (ps:List (Value × List Int)) (p:(Value × List Int)→Bool) (k m:Nat):Prop where
 hm:m=((ps.take k).filter fun x=>!p x).length
 blk:∃ cur,W.heap[g]? = some (.cells cur 28 (0,0))∧cur.size=sz∧(∀ q,(h:q < m)→cur[q]? = some (((ps.take k).filter fun x=>!p x)[q]'(by omega)).1)∧∀ q,k≤q→(h:q < ps.length)→cur[q]? = some ps[q].1
theorem zq0 {α:Type} (p:α→Bool) (l:List α) (k:Nat) (hk:k < l.length):(l.take (k+1)).filter p=(l.take k).filter p ++ if p l[k] then [l[k]] else []:=by
 rw [List.take_succ_eq_append_getElem hk,List.filter_append]
 congr 1
 simp [List.filter_cons]
theorem zqq.skip {W:World} {g sz:Nat} {ps:List (Value × List Int)} {p:(Value × List Int)→Bool} {k m:Nat} (d:zqq W g sz ps p k m) (hk:k < ps.length) (hp:p ps[k]=true):zqq W g sz ps p (k+1) m:=by
 have e:(ps.take (k+1)).filter (fun x=>!p x)=(ps.take k).filter fun x=>!p x:=by rw [zq0 _ _ _ hk];simp [hp]
 obtain ⟨cur,h1,h2,h3,h4⟩:=d.blk;refine ⟨by rw [e];exact d.hm,cur,h1,h2,fun q hq=>?_,fun q h h'=>h4 q (by omega) h'⟩;rw [h3 q hq]
 congr 2
 exact (List.getElem_of_eq e.symm _)
theorem zqq.put {W:World} {g sz:Nat} {ps:List (Value × List Int)} {p:(Value × List Int)→Bool} {k m:Nat} (d:zqq W g sz ps p k m) (hk:k < ps.length) (hp:p ps[k]=false) (hm:m < k) (hs:ps.length≤sz) :
  zqq (W.setCell ⟨g,m,none⟩ ps[k].1) g sz ps p (k+1) (m+1):=by
 have e:(ps.take (k+1)).filter (fun x=>!p x)=((ps.take k).filter fun x=>!p x) ++ [ps[k]]:=by rw [zq0 _ _ _ hk];simp [hp]
 obtain ⟨cur,h1,h2,h3,h4⟩:=d.blk;have hm':=d.hm;refine ⟨by rw [e];simp [← hm'],cur.setIfInBounds m ps[k].1,zl h1 _ _,by simpa using h2,fun q hq=>?_,fun q h h'=>?_⟩
 ·have eq:(((ps.take (k+1)).filter fun x=>!p x)[q]'(by rw [e];simp;omega))=(((ps.take k).filter fun x=>!p x) ++ [ps[k]])[q]'(by simp;omega):=List.getElem_of_eq e _
  rw [eq]
  by_cases hqm:q=m
  ·subst hqm
   rw [zk9 _ (by omega),List.getElem_append_right (by omega)];simp
  ·rw [zno _ (by omega),h3 q (by omega),List.getElem_append_left (by omega)]
 ·rw [zno _ (by omega)]
  exact h4 q (by omega) h'
theorem zqq.ext {W W':World} (e:Ext W W') {g sz:Nat} {ps:List (Value × List Int)} {p:(Value × List Int)→Bool} {k m:Nat} (d:zqq W g sz ps p k m):zqq W' g sz ps p k m:=by
 obtain ⟨cur,h1,h2⟩:=d.blk;exact ⟨d.hm,cur,(e.block g (Array.getElem?_eq_some_iff.1 h1).1).trans h1,h2⟩
theorem zti:El 39 52 3:=El.mk' (bytes:=24) (z:=.agg #[.int .i64 0,.int .i64 0,.int .i64 0]) (by kernel_rfl) (by kernel_rfl) rfl (by omega) (by omega)
theorem zq1 {P:Program} (w:World) (dT sT ty elem:TypeId) (g dLen dCap sLen sCap sz:Nat) (a:Addr) (cur:Array Value) (t:TypeId) (cs:List Value)
  (hu:P.underlying dT=some (.slice elem)) (hs:(P.info? elem).map (·.size)=some sz) (hg:w.heap[g]? = some (.cells cur t (0,0))) (hn:cs.length=Nat.min sLen dLen * sz)
  (hsrc:∀ j v,cs[j]? = some v→w.cell? (a.add j)=some v) (hfit:cs.length≤cur.size) (h1:∀ v∈cs,v.oneCell'=true) :
  (Builtin.copy_ #[dT,sT] ty #[.slice (some ⟨g,0,none⟩) dLen dCap,.slice (some a) sLen sCap]).run P w =
   .ok (goInt (Nat.min sLen dLen)) (w.setRow g (cs ++ cur.toList.drop cs.length).toArray):=by
 have hl:=run_loadCells_list (P:=P) w a cs hsrc;have hst:=run_storeCells_at P g 0 t cs 0 cur w hg (by simpa using hfit) h1;cases hq:P.info? elem with
 | none=>simp [hq] at hs
 | some i =>
  have hi:i.size=sz:=by simpa [hq] using hs
  simp only [Nat.zero_add,List.take_zero,List.nil_append] at hst;simp [Builtin.copy_,run_underlying hu,Builtin.lenOf,Builtin.firstCells,sizeOf,typeInfo,hq,hi,← hn,hl,hst]
theorem run_copy_none {P:Program} (w:World) (dT sT ty elem:TypeId) (a:Addr) (dLen dCap c:Nat) (hu:P.underlying dT=some (.slice elem)) (hs:((P.info? elem).map (·.size)).isSome=true) :
  (Builtin.copy_ #[dT,sT] ty #[.slice (some a) dLen dCap,.slice none 0 c]).run P w = .ok (goInt 0) w:=by
 cases hq:P.info? elem with
 | none=>simp [hq] at hs
 | some i=>simp [Builtin.copy_,run_underlying hu,Builtin.lenOf,Builtin.firstCells,sizeOf,typeInfo,hq,storeCells]
theorem zabc (w:World) (N:Nat) (hN:N≤1000):∃ w' cur,(Instr.makeSlice 39 (.int .i64 (N:Int)) (.int .i64 (N:Int))).run Tryz.prog w = .ok (.slice (some ⟨w.heap.size,0,none⟩) N N) w'∧w'.heap[w.heap.size]? = some (.cells cur 52 (0,0))∧cur.size=N * 3∧Ext w w':=by
 obtain ⟨i,z,hi,hz,hsi,hby,hzs⟩:=zti.info;obtain ⟨w',hrun,hown,hg⟩:=run_makeSlice_full (P:=Tryz.prog) w w.heap.size 39 52 i z 3 zti.und hi hz hsi .i64 .i64 N (by omega) (by have:=Nat.mul_le_mul hby hN;omega) (by simp [maxLen];omega) (Nat.le_refl _)
 rcases hown.2 with ⟨h0,_⟩ | ⟨g,cap,cur,hv,hb,hgc,hr⟩
 ·cases h0
 ·cases hv
  refine ⟨w',cur,hrun,hgc,?_,(Below.refl _ w).grown hg (Nat.le_refl _) fun k hk=>by cases hk⟩;exact hr.2.2.1
theorem zabd (w:World) (g N:Nat) (cur:Array Value) (l:List PB) (ba:Option Addr) (bcap:Nat) (ty:TypeId) (hg:w.heap[g]? = some (.cells cur 52 (0,0))) (hc:cur.size=l.length * 3) (hl:zgc w (.slice ba l.length bcap) l) (h9:l.length≤1000) :
  ∃ w',(Builtin.copy_ #[39,39] ty #[.slice (some ⟨g,0,none⟩) l.length l.length,.slice ba l.length bcap]).run Tryz.prog w = .ok (goInt l.length) w'∧Kept (fun k=>k≠g) w w'∧zgc w' (.slice (some ⟨g,0,none⟩) l.length l.length) l:=by
 have hlen:((l.map zce).flatten).length=l.length * 3:=by
  have:=zbm (rows:=l.map zce) (sz:=3) (by intro r hr;obtain ⟨x,_,rfl⟩:=List.mem_map.1 hr;rfl);rw [List.length_map] at this;exact this
 have hfin:∀ w':World,w'.heap[g]? = some (.cells ((l.map zce).flatten ++ cur.toList.drop ((l.map zce).flatten).length).toArray 52 (0,0))→zgc w' (.slice (some ⟨g,0,none⟩) l.length l.length) l:=fun w' hw=>by
  have ho:zp w' 0 52 3 (.slice (some ⟨g,0,none⟩) l.length l.length) (l.map zce):=by
   refine ⟨⟨?_,.inr ⟨g,l.length,_,by rw [List.length_map],by omega,hw,by rw [List.length_map];exact Nat.le_refl _,by simp [maxLen];omega,?_,?_⟩⟩,fun r hr=>by obtain ⟨x,_,rfl⟩:=List.mem_map.1 hr;rfl⟩
   ·rw [hlen,List.length_map]
   ·simp only [List.size_toArray,List.length_append,List.length_drop,Array.length_toList]
    omega
   ·rw [List.length_map,← hlen]
    simp
  exact ho.isRows
 obtain ⟨sa,cap,e,h2,h3,h4⟩:=hl;simp only [Value.slice.injEq] at e;obtain ⟨rfl,-,rfl⟩:=e;have hkr:∀ cs,Kept (fun k=>k≠g) w (w.setRow g cs):=fun cs=>⟨rfl,rfl,rfl,by simp [World.setRow],fun k _ hne=>setRow_other w g k cs hne⟩
 rcases h4 with h4 | ⟨b,off,rfl,h4⟩
 ·have h0:l=[]:=by simpa using h4
  subst h0;have hnil:∀ w':World,zgc w' (.slice (some ⟨g,0,none⟩) 0 0) []:=fun w'=>⟨_,_,rfl,by simp,by simp,.inl rfl⟩
  cases ba with
  | none=>exact ⟨w,run_copy_none w 39 39 ty 52 ⟨g,0,none⟩ 0 0 bcap zti.und (by kernel_rfl),Kept.refl _ _,hnil _⟩
  | some a =>
   have hr:=zq1 (P:=Tryz.prog) w 39 39 ty 52 g 0 0 0 bcap 3 a cur 52 [] zti.und (by kernel_rfl) hg rfl (fun j v hj=>by simp at hj) (by simp) (fun v hv=>by simp at hv);exact ⟨_,hr,hkr _,hnil _⟩
 ·have hr:=zq1 (P:=Tryz.prog) w 39 39 ty 52 g l.length l.length l.length bcap 3 ⟨b,off,none⟩ cur 52 (l.map zce).flatten zti.und (by kernel_rfl) hg (by rw [hlen,show Nat.min l.length l.length=l.length from Nat.min_self _])
   (fun j v hj=>by rw [addr_add];exact zc3 (by intro r hr;obtain ⟨x,_,rfl⟩:=List.mem_map.1 hr;rfl) h4 j v hj) (by rw [hlen,hc];exact Nat.le_refl _) (fun v hv=>by
    obtain ⟨r,hr,hv⟩:=List.mem_flatten.1 hv;obtain ⟨x,_,rfl⟩:=List.mem_map.1 hr;simp [zce] at hv
    rcases hv with rfl | rfl | rfl<;>rfl)
  rw [show Nat.min l.length l.length=l.length from Nat.min_self _] at hr;exact ⟨_,hr,hkr _,hfin _ (setRow_heap w g _ _ _ _ hg)⟩
theorem zaf6 (w:World) (sa:Option Addr) (scap:Nat) (l:List Int) (ty:TypeId) (hl:zt w .i64 (.slice sa l.length scap) l) (h9:l.length≤1000) (b:Nat) (x:Int) (hc:zan w 1 b 0 [zbn x]) :
  ∃ v' w',(Builtin.append_ #[28,28] ty #[.slice sa l.length l.length,.slice (some ⟨b,0,none⟩) 1 1]).run Tryz.prog w = .ok v' w'∧zp w' w.heap.size 3 1 v' ((l ++ [x]).map zbn)∧Ext w w':=by
 obtain ⟨_,_,e,h1,h2,h3⟩:=hl.spec;simp only [Value.slice.injEq] at e;obtain ⟨rfl,-,rfl⟩:=e;have hI:∀ r∈l.map zbn,r.length=1:=fun r hr=>by obtain ⟨y,_,rfl⟩:=List.mem_map.1 hr;rfl
 rw [List.map_append];obtain ⟨i,z,hi,hz,hsi,hby,hzs⟩:=zha.info;have hr1:∀ r∈[zbn x],r.length=1:=fun r hr=>by rw [List.mem_singleton.1 hr];rfl
 have hfl:∀ j u,[zbn x].flatten[j]? = some u→w.cell? ((⟨b,0,none⟩:Addr).add j)=some u:=fun j u hj=>by rw [addr_add];exact zc3 hr1 hc j u hj
 rcases h3 with h3 | ⟨bb,off,rfl,h3⟩
 ·subst h3
  cases sa with
  | none=>exact z26 zha ty none 0 0 rfl (by simp) (.inl ⟨rfl,rfl,rfl⟩) b 0 1 [zbn x] hr1 hc (by simp [zbn,Value.oneCell']) (by simp) (by simp)
  | some a =>
   obtain ⟨v',w',hrun,ho,hg2⟩:=run_append_arg_grows (P:=Tryz.prog) w 28 ty 3 i z 1 i.bytes zha.und hi hz hsi rfl hzs zha.pos a 0 0 [] rfl
    (fun j u hj=>by simp at hj) ⟨b,0,none⟩ 1 1 [zbn x].flatten rfl hfl (by omega) (by simp [maxLen]) (by omega)
   exact ⟨v',w',hrun,⟨by simpa using ho,by simpa using hr1⟩,(Below.refl _ w).grown hg2 (Nat.le_refl _) fun k hk=>by cases hk⟩
 ·refine z26 zha ty (some ⟨bb,off,none⟩) l.length l.length (by simp) hI (.inr ⟨bb,off,rfl,?_⟩) b 0 1 [zbn x] hr1 hc (by simp [zbn,Value.oneCell']) (by simp) (by simp;omega)
  obtain ⟨_,_,e,_,_,h4⟩:=hl;simp only [Value.slice.injEq] at e;obtain ⟨e,-,-⟩:=e
  rcases h4 with h4 | ⟨b2,o2,e2,h4⟩
  ·have h0:l=[]:=by simpa using h4
   subst h0;exact fun i hi=>by simp at hi
  ·rw [← e] at e2
   cases e2;exact h4
theorem zbd.kept {S:Nat→Prop} {w w':World} (k:Kept S w w') {sz:Nat} {v:Value} {rows:List (List Value)} (hb:rows=[]∨∀ g,v.ownBlock=some g→S g) (hr:zbd w sz v rows):zbd w' sz v rows:=by
 obtain ⟨sa,cap,h1,h2,h3,h4⟩:=hr;refine ⟨sa,cap,h1,h2,h3,?_⟩
 rcases h4 with h4 | ⟨b,off,e,h4⟩
 ·exact .inl h4
 ·rcases hb with hb | hb
  ·exact .inl hb
  ·exact .inr ⟨b,off,e,fun i hi j hj=>k.cell (h4 i hi j hj) (hb b (by rw [h1,e];rfl))⟩
theorem zadp {w:World} {ops:Array Oper} {rest:List Oper} {o:Oper} {a:Act} {Q:Exit→Act→World→Prop} (hgd:o.guard=none) (s x:Operand) {t:TypeId}
  (ho:o.op = .call { callee:=.builtin .append,args:=#[s,x],argTypes:=#[t,t] }) {vs vx v':Value} {w':World} (hs:a.eval s=vs) (hx:a.eval x=vx) (hrun:(Builtin.append_ #[t,t] o.type #[vs,vx]).run Tryz.prog w = .ok v' w')
  (h:wpList Tryz.prog ops Q rest (a.put o.dst v') w'):wpList Tryz.prog ops Q (o :: rest) a w :=
 wpList_plain hgd fun K hK=>by
  unfold Oper.wp execOp;simp only [ho,resolve,invoke,builtin,Sem.run_bind,Sem.run_pure,Result.andThen_ok,List.map_toArray,List.map_cons,List.map_nil,hs,hx,hrun];exact hK _ _ h
structure zid (W:World) (B gb:Nat) (vs:Nat→Value) (ls:Nat→List Int):Prop where
 hB:B≤gb
 blk:∃ cur:Array Value,W.heap[gb]? = some (.cells cur 28 (0,0))∧cur.size=3∧∀ j,j < 3→cur[j]? = some (vs j)
 own:∀ j,j < 3→zp W B 3 1 (vs j) ((ls j).map zbn)
 far:∀ i j,i < 3→j < 3→i≠j→∀ g,(vs i).ownBlock=some g→(vs j).ownBlock≠some g
theorem zid.lt {W:World} {B gb:Nat} {vs:Nat→Value} {ls:Nat→List Int} (h:zid W B gb vs ls):gb < W.heap.size:=by
 obtain ⟨cur,h1,_⟩:=h.blk;exact (Array.getElem?_eq_some_iff.1 h1).1
theorem zid.cell {W:World} {B gb:Nat} {vs:Nat→Value} {ls:Nat→List Int} (h:zid W B gb vs ls) (j:Nat) (hj:j < 3):W.cell? ⟨gb,j,none⟩=some (vs j):=by
 obtain ⟨cur,h1,_,h2⟩:=h.blk;rw [cell_of_row _ _ _ _ _ _ h1];exact h2 j hj
theorem zid.free {W:World} {B gb:Nat} {vs:Nat→Value} {ls:Nat→List Int} (h:zid W B gb vs ls) (o:Nat):W.frozen? ⟨gb,o,none⟩=false:=by
 obtain ⟨cur,h1,_⟩:=h.blk;simp [World.frozen?,h1]
theorem zid.ext {W W':World} (e:Ext W W') {B gb:Nat} {vs:Nat→Value} {ls:Nat→List Int} (h:zid W B gb vs ls):zid W' B gb vs ls:=by
 obtain ⟨cur,h1,h2⟩:=h.blk;exact ⟨h.hB,⟨cur,(e.block gb h.lt).trans h1,h2⟩,fun j hj=>(h.own j hj).ext e,h.far⟩
theorem zid.other {W:World} {B gb:Nat} {vs:Nat→Value} {ls:Nat→List Int} (h:zid W B gb vs ls) {j:Nat} (hj:j < 3):(vs j).ownBlock≠some gb:=by
 intro e;obtain ⟨cur,h1,_⟩:=h.blk
 rcases (h.own j hj).1.2 with ⟨a,_⟩ | ⟨g,cap,cur',hv,hb,hg,hr⟩
 ·rw [a] at e;cases e
 ·rw [hv] at e
  cases e;rw [hg] at h1;have:=(Obj.cells.inj (Option.some.inj h1)).2.1;exact absurd this (by decide)
theorem zid.put {W W1:World} {B gb:Nat} {vs:Nat→Value} {ls:Nat→List Int} (h:zid W B gb vs ls) {j:Nat} (hj:j < 3) {v':Value} {l:List Int} (ho:zp W1 B 3 1 v' (l.map zbn))
  (hk:Kept (fun k=>some k≠(vs j).ownBlock) W W1) (hat:∀ g,v'.ownBlock=some g→(vs j).ownBlock=some g∨W.heap.size≤g):zid (W1.setCell ⟨gb,j,none⟩ v') B gb (upd vs j v') (upd ls j l):=by
 obtain ⟨cur,h1,h2,h3⟩:=h.blk;have hg1:W1.heap[gb]? = some (.cells cur 28 (0,0)):=(hk.same gb h.lt (fun e=>h.other hj e.symm)).trans h1;refine ⟨h.hB,⟨cur.setIfInBounds j v',zl hg1 _ _,by simpa using h2,fun i hi=>?_⟩,fun i hi=>?_,fun i k hi hk' hne g=>?_⟩
 ·unfold upd
  by_cases e:i=j
  ·subst e;rw [if_pos rfl,zk9 _ (by omega)]
  ·rw [if_neg e,zno _ (fun e'=>e e'.symm),h3 i hi]
 ·unfold upd
  by_cases e:i=j
  ·subst e;rw [if_pos rfl,if_pos rfl];exact ho.setOther hg1 (by decide) _ _
  ·rw [if_neg e,if_neg e]
   exact ((h.own i hi).keptAt hk fun g _ _ hg _ e'=>h.far i j hi hj e g hg e'.symm).setOther hg1 (by decide) _ _
 ·unfold upd
  by_cases e:i=j
  ·subst e
   rw [if_pos rfl,if_neg (fun e=>hne e.symm)];intro hg hg2
   rcases hat g hg with h5 | h5
   ·exact h.far i k hi hk' hne g h5 hg2
   ·have:=((h.own k hk').notOwn g hg2).2;omega
  ·rw [if_neg e]
   by_cases e2:k=j
   ·subst e2
    rw [if_pos rfl];intro hg hg2
    rcases hat g hg2 with h5 | h5
    ·exact h.far i k hi hk' hne g hg h5
    ·have:=((h.own i hi).notOwn g hg).2;omega
   ·rw [if_neg e2]
    exact h.far i k hi hk' hne g
theorem LL.fin {W:World} {B:Nat} {v:Value} {ps:List (Value × List Int)} (h:LL W B v ps):zcz W v ps:=⟨h.own.isRows,fun x hx=>(h.each x hx).oneInts⟩
end Go.Proofs.YtdamgacabfbpjaaGreat
