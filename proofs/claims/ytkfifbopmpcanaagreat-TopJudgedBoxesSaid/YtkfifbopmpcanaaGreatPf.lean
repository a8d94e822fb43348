/-
  Plain: races, finishes, what words say, kinds.
-/
import Derived.Test.YtkfifbopmpcanaaGreatBa
namespace Go.Proofs.YtkfifbopmpcanaaGreat
abbrev Wd:=Int × Int × Int
structure Rc where
 n:Int
 ws:List Wd
def okWd (n:Int) (w:Wd):Bool:=decide (w.1≠w.2.1) && (decide (0≤w.1∧w.1 < n) && decide (0≤w.2.1∧w.2.1 < n)) && decide (0≤w.2.2∧w.2.2≤2)
def zaw (h:Rc):Int:=if h.n < 2∨5 < h.n then 3 else if 12 < h.ws.length then 6 else if h.ws.any (fun w=>!okWd h.n w)=true then 2 else 0
def pl (f:List Int) (i:Nat):Int:=f.getD i 0
def zec (f:List Int) (w:Wd):Bool:=if w.2.2=0 then decide (pl f w.1.toNat < pl f w.2.1.toNat) else if w.2.2=1 then decide (pl f w.1.toNat=pl f w.2.1.toNat) else decide (pl f w.1.toNat≤pl f w.2.1.toNat)
def agrP (ws:List Wd) (f:List Int):Bool:=ws.all (zec f)
def below (f:List Int) (x:Int) (k:Nat):Nat:=(List.range k).countP fun j=>decide (pl f j < x)
def zc7 (n:Nat) (f:List Int):List Int:=(List.range n).map fun i=>1+(below f (pl f i) n:Int)
def zay (n:Nat) (f:List Int):Bool:=decide (f=zc7 n f)
theorem below_le (f:List Int) (x:Int) (k:Nat):below f x k≤k:=by
 unfold below
 have:=List.countP_le_length (p:=fun j=>decide (pl f j < x)) (l:=List.range k)
 simpa using this
theorem zlp (f:List Int) (x:Int) (k:Nat):below f x (k+1)=below f x k+if pl f k < x then 1 else 0:=by
 unfold below
 rw [List.range_succ,List.countP_append]
 by_cases h:pl f k < x<;>simp [h]
theorem zgb (n:Nat) (f:List Int):(zc7 n f).length=n:=by simp [zc7]
theorem zsj {n:Nat} (f:List Int) {i:Nat} (h:i < n):pl (zc7 n f) i=1+(below f (pl f i) n:Int):=by
 unfold pl zc7
 rw [List.getD_eq_getElem?_getD,List.getElem?_map,List.getElem?_range h]
 rfl
theorem zwn {f g:List Int} {n:Nat} (hf:f.length=n) (hg:g.length=n) (h:∀ i,i < n→pl f i=pl g i):f=g:=by
 apply List.ext_getElem (by omega)
 intro i h1 h2
 have:=h i (by omega)
 unfold pl at this
 rw [List.getD_eq_getElem?_getD,List.getD_eq_getElem?_getD,List.getElem?_eq_getElem h1,List.getElem?_eq_getElem h2] at this
 simpa using this
theorem z22 {n:Nat} {f:List Int} (h:zay n f=true):f.length=n:=by
 have h:f=zc7 n f:=by simpa [zay] using h
 rw [h,zgb]
theorem zpn {n:Nat} {f:List Int} (h:zay n f=true) {i:Nat} (hi:i < n):pl f i=1+(below f (pl f i) n:Int):=by
 have h:f=zc7 n f:=by simpa [zay] using h
 have:=zsj f hi
 rw [← h] at this
 exact this
theorem z4r {f:List Int} {n i:Nat} (h:i < n):below f (pl f i) n < n:=by
 unfold below
 have h1:(List.range n).countP (fun j=>decide (pl f j < pl f i)) < (List.range n).length:=by
  rw [List.countP_eq_length_filter]
  refine List.length_filter_lt_length_iff_exists.2 ⟨i,List.mem_range.2 h,by simp⟩
 simpa using h1
theorem z4s {n:Nat} {f:List Int} (h:zay n f=true) {i:Nat} (hi:i < n):1≤pl f i∧pl f i≤n:=by
 have h1:=zpn h hi
 have h2:=z4r (f:=f) hi
 omega
def digs (n:Nat):Nat→Nat→List Int
 | 0,_=>[]
 | k+1,i=>digs n k (i / n) ++ [1+((i % n:Nat):Int)]
theorem za7 (n:Nat):∀ (k i:Nat),(digs n k i).length=k
 | 0,_=>rfl
 | k+1,i=>by simp [digs,za7 n k]
theorem z23 {n:Nat}:∀ {f:List Int},(∀ x∈f,1≤x∧x≤n)→∃ i,i < n ^ f.length∧digs n f.length i=f:=by
 intro f
 induction h:f.length generalizing f with
 | zero =>
  intro _
  have:f=[]:=List.length_eq_zero_iff.1 h
  subst this
  exact ⟨0,by simp,rfl⟩
 | succ k ih =>
  intro hb
  obtain ⟨g,d,e⟩:∃ g d,f=g ++ [d]:=by
   rcases List.eq_nil_or_concat f with e | ⟨g,d,e⟩
   ·subst e;cases h
   ·exact ⟨g,d,by rw [e,List.concat_eq_append]⟩
  subst e
  have hg:g.length=k:=by simpa using h
  obtain ⟨i,h1,h2⟩:=ih hg (fun x hx=>hb x (by simp [hx]))
  obtain ⟨h3,h4⟩:=hb d (by simp)
  have hn:0 < n:=by omega
  obtain ⟨e,he⟩:∃ e:Nat,d=1+(e:Int):=⟨(d - 1).toNat,by omega⟩
  have hen:e < n:=by omega
  refine ⟨n * i+e,?_,?_⟩
  ·rw [Nat.pow_succ,Nat.mul_comm (n ^ k)]
   have:n * (i+1)≤n * n ^ k:=Nat.mul_le_mul_left _ h1
   rw [Nat.mul_add] at this
   omega
  ·show digs n k ((n * i+e) / n) ++ [1+(((n * i+e) % n:Nat):Int)]=_
   rw [Nat.mul_add_div hn,Nat.div_eq_of_lt hen,Nat.add_zero,Nat.mul_add_mod,Nat.mod_eq_of_lt hen,h2,he]
def za5 (n:Nat) (k:Nat):List (List Int):=((List.range k).map (digs n n)).filter (zay n)
def zel (n:Nat):List (List Int):=za5 n (n ^ n)
theorem zhn (n k:Nat):za5 n (k+1)=za5 n k ++ if zay n (digs n n k)=true then [digs n n k] else []:=by
 unfold za5
 rw [List.range_succ,List.map_append,List.filter_append]
 cases h:zay n (digs n n k)<;>simp [h]
theorem z0e (n k:Nat):(za5 n k).length≤k:=Nat.le_trans (List.length_filter_le _ _) (by simp)
theorem z4t {n:Nat} {f:List Int}:f∈zel n↔zay n f=true:=by
 constructor
 ·intro h
  exact (List.mem_filter.1 h).2
 ·intro h
  have hl:=z22 h
  have hb:∀ x∈f,1≤x∧x≤(n:Int):=fun x hx=>by
   obtain ⟨i,hi,e⟩:=List.mem_iff_getElem.1 hx
   have:=z4s h (i:=i) (by omega)
   have e2:pl f i=x:=by unfold pl;rw [List.getD_eq_getElem?_getD,List.getElem?_eq_getElem hi];simpa using e
   rw [e2] at this
   exact this
  obtain ⟨i,h1,h2⟩:=z23 hb
  rw [hl] at h1 h2
  refine List.mem_filter.2 ⟨List.mem_map.2 ⟨i,List.mem_range.2 h1,h2⟩,h⟩
theorem zxr (n:Nat) {k m:Nat} (h:k≤m):∃ r,za5 n m=za5 n k ++ r:=by
 obtain ⟨d,rfl⟩:∃ d,m=k+d:=⟨m - k,by omega⟩
 unfold za5
 rw [List.range_add,List.map_append,List.filter_append]
 exact ⟨_,rfl⟩
def agrL (h:Rc):List (List Int):=(zel h.n.toNat).filter (agrP h.ws)
theorem mem_agr {h:Rc} {f:List Int}:f∈agrL h↔zay h.n.toNat f=true∧agrP h.ws f=true:=by
 unfold agrL
 rw [List.mem_filter,z4t]
def z0f (n:Nat) (l:List Int):Nat:=l.foldl (fun acc d=>acc * n+(d - 1).toNat) 0
theorem zfa {n:Nat} (hn:0 < n):∀ {k i:Nat},i < n ^ k→z0f n (digs n k i)=i
 | 0,i,h=>by
  simp at h
  subst h;rfl
 | k+1,i,h=>by
  have h1:i / n < n ^ k:=by
   rw [Nat.div_lt_iff_lt_mul hn]
   rw [Nat.pow_succ] at h
   exact h
  have ih:=zfa hn h1
  unfold z0f at *
  show (digs n k (i / n) ++ [1+((i % n:Nat):Int)]).foldl _ 0=i
  rw [List.foldl_append,ih]
  show i / n * n+(1+((i % n:Nat):Int) - 1).toNat=i
  have:=Nat.div_add_mod i n
  rw [Nat.mul_comm] at this
  omega
def zlq (l:List (List Int)) (p:List Int→Bool):Int:=if (l.filter p).length=0 then 0 else if (l.filter p).length=l.length then 2 else 1
theorem z0g {l:List (List Int)} {p:List Int→Bool} (h:zlq l p=0) {f:List Int} (hf:f∈l):p f=false:=by
 unfold zlq at h
 split at h
 ·rename_i h0
  have:=List.length_eq_zero_iff.1 h0
  rw [List.filter_eq_nil_iff] at this
  simpa using this f hf
 ·split at h<;>cases h
theorem zrd {n:Nat} (hn:0 < n):∀ (t k i:Nat),i % n ^ t=n ^ t - 1→digs n (k+t) (i+1)=digs n k (i / n ^ t+1) ++ List.replicate t 1
 | 0,k,i,_=>by simp
 | t+1,k,i,h=>by
  have hp:0 < n ^ t:=Nat.pow_pos hn
  have e1:n ^ (t+1)=n * n ^ t:=by rw [Nat.pow_succ,Nat.mul_comm]
  have h1:i % n=n - 1:=by
   have h2:i % n ^ (t+1) % n=i % n:=Nat.mod_mod_of_dvd _ (by rw [e1];exact Nat.dvd_mul_right _ _)
   rw [← h2,h,e1]
   have h3:n * n ^ t - 1=n * (n ^ t - 1)+(n - 1):=by
    rw [Nat.mul_sub,Nat.mul_one]
    have:n≤n * n ^ t:=Nat.le_mul_of_pos_right _ hp
    omega
   rw [h3,Nat.mul_add_mod,Nat.mod_eq_of_lt (by omega)]
  have h4:i / n % n ^ t=n ^ t - 1:=by
   rw [← Nat.mod_mul_right_div_self,← e1,h,e1]
   have h3:n * n ^ t - 1=n * (n ^ t - 1)+(n - 1):=by
    rw [Nat.mul_sub,Nat.mul_one]
    have:n≤n * n ^ t:=Nat.le_mul_of_pos_right _ hp
    omega
   rw [h3,Nat.mul_add_div hn,Nat.div_eq_of_lt (by omega),Nat.add_zero]
  have h5:(i+1) / n=i / n+1∧(i+1) % n=0:=by
   have hd:=Nat.div_add_mod i n
   have:i+1=n * (i / n+1):=by rw [Nat.mul_add,Nat.mul_one];omega
   constructor
   ·rw [this,Nat.mul_div_cancel_left _ hn]
   ·rw [this,Nat.mul_mod_right]
  show digs n (k+t) ((i+1) / n) ++ [1+(((i+1) % n:Nat):Int)]=_
  rw [h5.1,h5.2,zrd hn t k (i / n) h4,Nat.div_div_eq_div_mul,← e1,List.replicate_succ',List.append_assoc]
  rfl
def dig (n i t:Nat):Nat:=i / n ^ t % n
theorem zti {n i t:Nat} (hn:0 < n) (h:i % n ^ t=n ^ t - 1) (hd:dig n i t=n - 1):i % n ^ (t+1)=n ^ (t+1) - 1:=by
 have hp:0 < n ^ t:=Nat.pow_pos hn
 rw [Nat.pow_succ,Nat.mod_mul,h]
 unfold dig at hd
 rw [hd,Nat.mul_sub,Nat.mul_one]
 have:n ^ t≤n ^ t * n:=Nat.le_mul_of_pos_right _ hn
 omega
def zbm (n i t:Nat):List Int:=digs n (n - t) (i / n ^ t) ++ List.replicate t 1
theorem ze1 {n i t:Nat} (h:t≤n):(zbm n i t).length=n:=by
 unfold zbm
 rw [List.length_append,za7,List.length_replicate];omega
theorem zre (n i:Nat):zbm n i 0=digs n n i:=by simp [zbm]
theorem zwo {n i t:Nat} (h:t < n):pl (zbm n i t) (n - 1 - t)=1+(dig n i t:Int):=by
 unfold pl zbm
 have e:n - t=(n - 1 - t)+1:=by omega
 rw [List.getD_eq_getElem?_getD,List.getElem?_append_left (by rw [za7];omega),e]
 show ((digs n (n - 1 - t) (i / n ^ t / n) ++ [1+((i / n ^ t % n:Nat):Int)])[n - 1 - t]?).getD 0=_
 rw [List.getElem?_append_right (by rw [za7];exact Nat.le_refl _),za7,Nat.sub_self]
 rfl
theorem ztj {n i t:Nat} (h:t < n):(zbm n i t).set (n - 1 - t) 1=zbm n i (t+1):=by
 have e:n - t=(n - 1 - t)+1:=by omega
 unfold zbm
 rw [List.set_append_left _ _ (by rw [za7];omega),e]
 show (digs n (n - 1 - t) (i / n ^ t / n) ++ [_]).set (n - 1 - t) 1 ++ _=_
 rw [List.set_append_right _ _ (by rw [za7];exact Nat.le_refl _),za7,Nat.sub_self,List.set_cons_zero,Nat.div_div_eq_div_mul,← Nat.pow_succ,show n - (t+1)=n - 1 - t by omega,List.append_assoc,List.replicate_succ]
 rfl
theorem zh3 {n i t:Nat} (hn:0 < n) (h:t < n) (hf:i % n ^ t=n ^ t - 1) (hd:dig n i t≠n - 1):(zbm n i t).set (n - 1 - t) (2+(dig n i t:Int))=digs n n (i+1):=by
 have e:n - t=(n - 1 - t)+1:=by omega
 have hlt:dig n i t < n:=Nat.mod_lt _ hn
 have h1:=zrd hn t (n - t) i hf
 rw [show n - t+t=n by omega] at h1
 rw [h1]
 unfold zbm
 rw [List.set_append_left _ _ (by rw [za7];omega)]
 congr 1
 rw [e]
 show (digs n (n - 1 - t) (i / n ^ t / n) ++ [_]).set (n - 1 - t) _=digs n (n - 1 - t) ((i / n ^ t+1) / n) ++ [1+(((i / n ^ t+1) % n:Nat):Int)]
 rw [List.set_append_right _ _ (by rw [za7];exact Nat.le_refl _),za7,Nat.sub_self,List.set_cons_zero]
 obtain ⟨q,hq⟩:∃ q,q=i / n ^ t:=⟨_,rfl⟩
 unfold dig at hd hlt ⊢
 rw [← hq] at hd hlt ⊢
 have hdm:=Nat.div_add_mod q n
 have h5:(q+1) / n=q / n∧(q+1) % n=q % n+1:=by
  have:q+1=n * (q / n)+(q % n+1):=by omega
  have hs:q % n+1 < n:=by omega
  constructor
  ·rw [this,Nat.mul_add_div hn,Nat.div_eq_of_lt hs,Nat.add_zero]
  ·rw [this,Nat.mul_add_mod,Nat.mod_eq_of_lt hs]
 rw [h5.1,h5.2]
 congr 2
 omega
theorem zwp {n i:Nat} (hi:i < n ^ n) (h:i % n ^ n=n ^ n - 1):i+1=n ^ n:=by
 rw [Nat.mod_eq_of_lt hi] at h
 omega
theorem zrf {n:Nat} (hn:0 < n):∀ k,digs n k 0=List.replicate k 1
 | 0=>rfl
 | k+1=>by
  show digs n k (0 / n) ++ [1+((0 % n:Nat):Int)]=_
  rw [Nat.zero_div,Nat.zero_mod,zrf hn k,List.replicate_succ']
  rfl
theorem zlr {n i t:Nat} (hn:0 < n) (h:t < n) (hi:i < n ^ n) (hd:dig n i t≠n - 1):i+1 < n ^ n:=by
 rcases Nat.lt_or_ge (i+1) (n ^ n) with hc | hc
 ·exact hc
 ·exfalso
  apply hd
  have e:i=n ^ n - 1:=by omega
  unfold dig
  have hp:0 < n ^ t:=Nat.pow_pos hn
  obtain ⟨d,hd⟩:∃ d,n=t+(d+1):=⟨n - t - 1,by omega⟩
  have e2:n ^ n=n ^ t * (n ^ d * n):=by
   rw [← Nat.pow_succ,← Nat.pow_add]
   congr 1
  have hq:0 < n ^ d:=Nat.pow_pos hn
  have hm:0 < n ^ d * n:=Nat.mul_pos hq hn
  have h1:n ^ t * (n ^ d * n) - 1=n ^ t * (n ^ d * n - 1)+(n ^ t - 1):=by
   rw [Nat.mul_sub,Nat.mul_one]
   have:n ^ t≤n ^ t * (n ^ d * n):=Nat.le_mul_of_pos_right _ hm
   omega
  rw [e,e2,h1,Nat.mul_add_div hp,Nat.div_eq_of_lt (by omega),Nat.add_zero]
  have h2:n ^ d * n - 1=n * (n ^ d - 1)+(n - 1):=by
   rw [Nat.mul_sub,Nat.mul_one,Nat.mul_comm n]
   have:n≤n ^ d * n:=Nat.le_mul_of_pos_left _ hq
   omega
  rw [h2,Nat.mul_add_mod,Nat.mod_eq_of_lt (by omega)]
end Go.Proofs.YtkfifbopmpcanaaGreat
