/-
  The walk of finishes (its iterator is not walked yet), and what it yields, plainly.
-/
import Derived.Test.YtdamgacabfbpjaaGreatPd
import Derived.Test.YtdamgacabfbpjaaGreatBa
import Derived.Test.YtdamgacabfbpjaaGreatBb
import Derived.Test.YtdamgacabfbpjaaGreatPa
import Derived.Lib.SliceRun
import Derived.Test.YtdamgacabfbpjaaGreatPe
import Derived.Laws.CopyOwn
import Derived.Laws.CopyRow
namespace Go.Proofs.YtdamgacabfbpjaaGreat
open Go.RowKit Go.Shelf
end Go.Proofs.YtdamgacabfbpjaaGreat
namespace Go.Proofs.YtdamgacabfbpjaaGreat
theorem rising_iff {l:List Int}:rising l=true↔l.Pairwise (· < ·):=by
 constructor
 ·intro h
  rw [List.pairwise_iff_getElem]
  intro i j hi hj hij
  have:=ztb h hij hj
  rwa [gt_get hi,gt_get hj]
 ·intro h
  rw [List.pairwise_iff_getElem] at h
  unfold rising
  rw [Bool.not_eq_true',List.any_eq_false]
  intro i hi
  have hi':=List.mem_range.1 hi
  unfold flat
  by_cases h0:0 < i
  ·have h1:=h (i - 1) i (by omega) hi' (by omega)
   rw [gt_get hi',gt_get (show i - 1 < l.length by omega)] at *
   simp;omega
  ·simp;omega
theorem zy4:∀ {g left rest:List Int},left.Perm (g ++ rest)→∃ l,chkG left g=some l∧l.Perm rest
 | [],left,rest,h=>⟨left,rfl,h⟩
 | r :: g,left,rest,h=>by
  have hr:r∈left:=h.symm.subset (by simp)
  unfold chkG
  rw [if_pos hr]
  refine zy4 ((List.perm_cons r).1 ((List.perm_cons_erase hr).symm.trans h))
theorem zy5:∀ {fs:List (List Int)} {left rest:List Int},left.Perm (fs.flatten ++ rest)→(∀ g∈fs,g≠[]∧rising g=true)→∃ l,chkF left fs=some l∧l.Perm rest
 | [],left,rest,h,_=>⟨left,rfl,h⟩
 | g :: fs,left,rest,h,hg=>by
  have h1:=hg g (by simp)
  unfold chkF
  rw [if_neg (by rw [not_or];exact ⟨h1.1,by simp [h1.2]⟩)]
  rw [List.flatten_cons,List.append_assoc] at h
  obtain ⟨l,e,hl⟩:=zy4 h
  rw [e]
  exact zy5 (fs:=fs) hl fun x hx=>hg x (by simp [hx])
theorem z25 {b:Bk} {fs:List (List Int)} (h0:zay b=0) (h:FinV b fs):zat b fs=0:=by
 have hp:(runL b).Perm (fs.flatten ++ []):=by rw [List.append_nil];exact h.perm
 obtain ⟨l,e,hl⟩:=zy5 hp fun g hg=>⟨h.ne g hg,h.up g hg⟩
 have:l=[]:=List.perm_nil.1 hl
 subst this
 unfold zat
 rw [if_neg (fun e=>e h0),if_pos e]
end Go.Proofs.YtdamgacabfbpjaaGreat
namespace Go.Proofs.YtdamgacabfbpjaaGreat
abbrev Wd:=Int × Int × Int
structure Rc where
 n:Int
 ws:List Wd
def okWd (n:Int) (w:Wd):Bool:=decide (w.1≠w.2.1) && (decide (0≤w.1∧w.1 < n) && decide (0≤w.2.1∧w.2.1 < n)) && decide (0≤w.2.2∧w.2.2≤2)
def zai (h:Rc):Int:=if h.n < 2∨5 < h.n then 3 else if 12 < h.ws.length then 6 else if h.ws.any (fun w=>!okWd h.n w)=true then 2 else 0
def pl (f:List Int) (i:Nat):Int:=f.getD i 0
def zbd (f:List Int) (w:Wd):Bool:=if w.2.2=0 then decide (pl f w.1.toNat < pl f w.2.1.toNat) else if w.2.2=1 then decide (pl f w.1.toNat=pl f w.2.1.toNat) else decide (pl f w.1.toNat≤pl f w.2.1.toNat)
def agrP (ws:List Wd) (f:List Int):Bool:=ws.all (zbd f)
def below (f:List Int) (x:Int) (k:Nat):Nat:=(List.range k).countP fun j=>decide (pl f j < x)
def zc1 (n:Nat) (f:List Int):List Int:=(List.range n).map fun i=>1+(below f (pl f i) n:Int)
def zaj (n:Nat) (f:List Int):Bool:=decide (f=zc1 n f)
theorem below_le (f:List Int) (x:Int) (k:Nat):below f x k≤k:=by
 unfold below
 have:=List.countP_le_length (p:=fun j=>decide (pl f j < x)) (l:=List.range k)
 simpa using this
theorem zlw (f:List Int) (x:Int) (k:Nat):below f x (k+1)=below f x k+if pl f k < x then 1 else 0:=by
 unfold below
 rw [List.range_succ,List.countP_append]
 by_cases h:pl f k < x<;>simp [h]
theorem zfz (n:Nat) (f:List Int):(zc1 n f).length=n:=by simp [zc1]
theorem zsa {n:Nat} (f:List Int) {i:Nat} (h:i < n):pl (zc1 n f) i=1+(below f (pl f i) n:Int):=by
 unfold pl zc1
 rw [List.getD_eq_getElem?_getD,List.getElem?_map,List.getElem?_range h]
 rfl
theorem zwq {f g:List Int} {n:Nat} (hf:f.length=n) (hg:g.length=n) (h:∀ i,i < n→pl f i=pl g i):f=g:=by
 apply List.ext_getElem (by omega)
 intro i h1 h2
 have:=h i (by omega)
 unfold pl at this
 rw [List.getD_eq_getElem?_getD,List.getD_eq_getElem?_getD,List.getElem?_eq_getElem h1,List.getElem?_eq_getElem h2] at this
 simpa using this
theorem zh5 {n:Nat} {f:List Int} (h:zaj n f=true):f.length=n:=by
 have h:f=zc1 n f:=by simpa [zaj] using h
 rw [h,zfz]
theorem zhm {n:Nat} {f:List Int} (h:zaj n f=true) {i:Nat} (hi:i < n):pl f i=1+(below f (pl f i) n:Int):=by
 have h:f=zc1 n f:=by simpa [zaj] using h
 have:=zsa f hi
 rw [← h] at this
 exact this
theorem z48 {f:List Int} {n i:Nat} (h:i < n):below f (pl f i) n < n:=by
 unfold below
 have h1:(List.range n).countP (fun j=>decide (pl f j < pl f i)) < (List.range n).length:=by
  rw [List.countP_eq_length_filter]
  refine List.length_filter_lt_length_iff_exists.2 ⟨i,List.mem_range.2 h,by simp⟩
 simpa using h1
theorem zdu {n:Nat} {f:List Int} (h:zaj n f=true) {i:Nat} (hi:i < n):1≤pl f i∧pl f i≤n:=by
 have h1:=zhm h hi
 have h2:=z48 (f:=f) hi
 omega
def digs (n:Nat):Nat→Nat→List Int
 | 0,_=>[]
 | k+1,i=>digs n k (i / n) ++ [1+((i % n:Nat):Int)]
theorem za4 (n:Nat):∀ (k i:Nat),(digs n k i).length=k
 | 0,_=>rfl
 | k+1,i=>by simp [digs,za4 n k]
theorem z26 {n:Nat}:∀ {f:List Int},(∀ x∈f,1≤x∧x≤n)→∃ i,i < n ^ f.length∧digs n f.length i=f:=by
 intro f
 induction h:f.length generalizing f with
 | zero =>
  intro _
  have:f=[]:=List.length_eq_zero_iff.1 h
  subst this
  exact ⟨0,by simp,rfl⟩
 | succ k ih =>
  intro hb
  obtain ⟨g,d,e⟩:∃ g d,f=g ++ [d]:=by
   rcases List.eq_nil_or_concat f with e | ⟨g,d,e⟩
   ·subst e;cases h
   ·exact ⟨g,d,by rw [e,List.concat_eq_append]⟩
  subst e
  have hg:g.length=k:=by simpa using h
  obtain ⟨i,h1,h2⟩:=ih hg (fun x hx=>hb x (by simp [hx]))
  obtain ⟨h3,h4⟩:=hb d (by simp)
  have hn:0 < n:=by omega
  obtain ⟨e,he⟩:∃ e:Nat,d=1+(e:Int):=⟨(d - 1).toNat,by omega⟩
  have hen:e < n:=by omega
  refine ⟨n * i+e,?_,?_⟩
  ·rw [Nat.pow_succ,Nat.mul_comm (n ^ k)]
   have:n * (i+1)≤n * n ^ k:=Nat.mul_le_mul_left _ h1
   rw [Nat.mul_add] at this
   omega
  ·show digs n k ((n * i+e) / n) ++ [1+(((n * i+e) % n:Nat):Int)]=_
   rw [Nat.mul_add_div hn,Nat.div_eq_of_lt hen,Nat.add_zero,Nat.mul_add_mod,Nat.mod_eq_of_lt hen,h2,he]
def za2 (n:Nat) (k:Nat):List (List Int):=((List.range k).map (digs n n)).filter (zaj n)
def zd7 (n:Nat):List (List Int):=za2 n (n ^ n)
theorem zhn (n k:Nat):za2 n (k+1)=za2 n k ++ if zaj n (digs n n k)=true then [digs n n k] else []:=by
 unfold za2
 rw [List.range_succ,List.map_append,List.filter_append]
 cases h:zaj n (digs n n k)<;>simp [h]
theorem z0k (n k:Nat):(za2 n k).length≤k:=Nat.le_trans (List.length_filter_le _ _) (by simp)
theorem mem_fins {n:Nat} {f:List Int}:f∈zd7 n↔zaj n f=true:=by
 constructor
 ·intro h
  exact (List.mem_filter.1 h).2
 ·intro h
  have hl:=zh5 h
  have hb:∀ x∈f,1≤x∧x≤(n:Int):=fun x hx=>by
   obtain ⟨i,hi,e⟩:=List.mem_iff_getElem.1 hx
   have:=zdu h (i:=i) (by omega)
   have e2:pl f i=x:=by unfold pl;rw [List.getD_eq_getElem?_getD,List.getElem?_eq_getElem hi];simpa using e
   rw [e2] at this
   exact this
  obtain ⟨i,h1,h2⟩:=z26 hb
  rw [hl] at h1 h2
  refine List.mem_filter.2 ⟨List.mem_map.2 ⟨i,List.mem_range.2 h1,h2⟩,h⟩
theorem zxq (n:Nat) {k m:Nat} (h:k≤m):∃ r,za2 n m=za2 n k ++ r:=by
 obtain ⟨d,rfl⟩:∃ d,m=k+d:=⟨m - k,by omega⟩
 unfold za2
 rw [List.range_add,List.map_append,List.filter_append]
 exact ⟨_,rfl⟩
def agrL (h:Rc):List (List Int):=(zd7 h.n.toNat).filter (agrP h.ws)
theorem mem_agr {h:Rc} {f:List Int}:f∈agrL h↔zaj h.n.toNat f=true∧agrP h.ws f=true:=by
 unfold agrL
 rw [List.mem_filter,mem_fins]
def z0l (n:Nat) (l:List Int):Nat:=l.foldl (fun acc d=>acc * n+(d - 1).toNat) 0
theorem ze7 {n:Nat} (hn:0 < n):∀ {k i:Nat},i < n ^ k→z0l n (digs n k i)=i
 | 0,i,h=>by
  simp at h
  subst h;rfl
 | k+1,i,h=>by
  have h1:i / n < n ^ k:=by
   rw [Nat.div_lt_iff_lt_mul hn]
   rw [Nat.pow_succ] at h
   exact h
  have ih:=ze7 hn h1
  unfold z0l at *
  show (digs n k (i / n) ++ [1+((i % n:Nat):Int)]).foldl _ 0=i
  rw [List.foldl_append,ih]
  show i / n * n+(1+((i % n:Nat):Int) - 1).toNat=i
  have:=Nat.div_add_mod i n
  rw [Nat.mul_comm] at this
  omega
def zdg (l:List (List Int)) (p:List Int→Bool):Int:=if (l.filter p).length=0 then 0 else if (l.filter p).length=l.length then 2 else 1
theorem z0m {l:List (List Int)} {p:List Int→Bool} (h:zdg l p=0) {f:List Int} (hf:f∈l):p f=false:=by
 unfold zdg at h
 split at h
 ·rename_i h0
  have:=List.length_eq_zero_iff.1 h0
  rw [List.filter_eq_nil_iff] at this
  simpa using this f hf
 ·split at h<;>cases h
theorem zxr {l:List (List Int)} {p:List Int→Bool} (h:zdg l p=2) {f:List Int} (hf:f∈l):p f=true:=by
 unfold zdg at h
 split at h
 ·cases h
 ·split at h
  ·rename_i h0
   exact List.length_filter_eq_length_iff.1 h0 f hf
  ·cases h
theorem z7h (l:List (List Int)) (p:List Int→Bool):0≤zdg l p∧zdg l p≤2:=by
 unfold zdg
 split
 ·omega
 ·split<;>omega
theorem zra {n:Nat} (hn:0 < n):∀ (t k i:Nat),i % n ^ t=n ^ t - 1→digs n (k+t) (i+1)=digs n k (i / n ^ t+1) ++ List.replicate t 1
 | 0,k,i,_=>by simp
 | t+1,k,i,h=>by
  have hp:0 < n ^ t:=Nat.pow_pos hn
  have e1:n ^ (t+1)=n * n ^ t:=by rw [Nat.pow_succ,Nat.mul_comm]
  have h1:i % n=n - 1:=by
   have h2:i % n ^ (t+1) % n=i % n:=Nat.mod_mod_of_dvd _ (by rw [e1];exact Nat.dvd_mul_right _ _)
   rw [← h2,h,e1]
   have h3:n * n ^ t - 1=n * (n ^ t - 1)+(n - 1):=by
    rw [Nat.mul_sub,Nat.mul_one]
    have:n≤n * n ^ t:=Nat.le_mul_of_pos_right _ hp
    omega
   rw [h3,Nat.mul_add_mod,Nat.mod_eq_of_lt (by omega)]
  have h4:i / n % n ^ t=n ^ t - 1:=by
   rw [← Nat.mod_mul_right_div_self,← e1,h,e1]
   have h3:n * n ^ t - 1=n * (n ^ t - 1)+(n - 1):=by
    rw [Nat.mul_sub,Nat.mul_one]
    have:n≤n * n ^ t:=Nat.le_mul_of_pos_right _ hp
    omega
   rw [h3,Nat.mul_add_div hn,Nat.div_eq_of_lt (by omega),Nat.add_zero]
  have h5:(i+1) / n=i / n+1∧(i+1) % n=0:=by
   have hd:=Nat.div_add_mod i n
   have:i+1=n * (i / n+1):=by rw [Nat.mul_add,Nat.mul_one];omega
   constructor
   ·rw [this,Nat.mul_div_cancel_left _ hn]
   ·rw [this,Nat.mul_mod_right]
  show digs n (k+t) ((i+1) / n) ++ [1+(((i+1) % n:Nat):Int)]=_
  rw [h5.1,h5.2,zra hn t k (i / n) h4,Nat.div_div_eq_div_mul,← e1,List.replicate_succ',List.append_assoc]
  rfl
def dig (n i t:Nat):Nat:=i / n ^ t % n
theorem zti {n i t:Nat} (hn:0 < n) (h:i % n ^ t=n ^ t - 1) (hd:dig n i t=n - 1):i % n ^ (t+1)=n ^ (t+1) - 1:=by
 have hp:0 < n ^ t:=Nat.pow_pos hn
 rw [Nat.pow_succ,Nat.mod_mul,h]
 unfold dig at hd
 rw [hd,Nat.mul_sub,Nat.mul_one]
 have:n ^ t≤n ^ t * n:=Nat.le_mul_of_pos_right _ hn
 omega
def zbo (n i t:Nat):List Int:=digs n (n - t) (i / n ^ t) ++ List.replicate t 1
theorem zeu {n i t:Nat} (h:t≤n):(zbo n i t).length=n:=by
 unfold zbo
 rw [List.length_append,za4,List.length_replicate];omega
theorem zrb (n i:Nat):zbo n i 0=digs n n i:=by simp [zbo]
theorem zwr {n i t:Nat} (h:t < n):pl (zbo n i t) (n - 1 - t)=1+(dig n i t:Int):=by
 unfold pl zbo
 have e:n - t=(n - 1 - t)+1:=by omega
 rw [List.getD_eq_getElem?_getD,List.getElem?_append_left (by rw [za4];omega),e]
 show ((digs n (n - 1 - t) (i / n ^ t / n) ++ [1+((i / n ^ t % n:Nat):Int)])[n - 1 - t]?).getD 0=_
 rw [List.getElem?_append_right (by rw [za4];exact Nat.le_refl _),za4,Nat.sub_self]
 rfl
theorem ztj {n i t:Nat} (h:t < n):(zbo n i t).set (n - 1 - t) 1=zbo n i (t+1):=by
 have e:n - t=(n - 1 - t)+1:=by omega
 unfold zbo
 rw [List.set_append_left _ _ (by rw [za4];omega),e]
 show (digs n (n - 1 - t) (i / n ^ t / n) ++ [_]).set (n - 1 - t) 1 ++ _=_
 rw [List.set_append_right _ _ (by rw [za4];exact Nat.le_refl _),za4,Nat.sub_self,List.set_cons_zero,Nat.div_div_eq_div_mul,← Nat.pow_succ,show n - (t+1)=n - 1 - t by omega,List.append_assoc,List.replicate_succ]
 rfl
theorem zh6 {n i t:Nat} (hn:0 < n) (h:t < n) (hf:i % n ^ t=n ^ t - 1) (hd:dig n i t≠n - 1):(zbo n i t).set (n - 1 - t) (2+(dig n i t:Int))=digs n n (i+1):=by
 have e:n - t=(n - 1 - t)+1:=by omega
 have hlt:dig n i t < n:=Nat.mod_lt _ hn
 have h1:=zra hn t (n - t) i hf
 rw [show n - t+t=n by omega] at h1
 rw [h1]
 unfold zbo
 rw [List.set_append_left _ _ (by rw [za4];omega)]
 congr 1
 rw [e]
 show (digs n (n - 1 - t) (i / n ^ t / n) ++ [_]).set (n - 1 - t) _=digs n (n - 1 - t) ((i / n ^ t+1) / n) ++ [1+(((i / n ^ t+1) % n:Nat):Int)]
 rw [List.set_append_right _ _ (by rw [za4];exact Nat.le_refl _),za4,Nat.sub_self,List.set_cons_zero]
 obtain ⟨q,hq⟩:∃ q,q=i / n ^ t:=⟨_,rfl⟩
 unfold dig at hd hlt ⊢
 rw [← hq] at hd hlt ⊢
 have hdm:=Nat.div_add_mod q n
 have h5:(q+1) / n=q / n∧(q+1) % n=q % n+1:=by
  have:q+1=n * (q / n)+(q % n+1):=by omega
  have hs:q % n+1 < n:=by omega
  constructor
  ·rw [this,Nat.mul_add_div hn,Nat.div_eq_of_lt hs,Nat.add_zero]
  ·rw [this,Nat.mul_add_mod,Nat.mod_eq_of_lt hs]
 rw [h5.1,h5.2]
 congr 2
 omega
theorem zws {n i:Nat} (hi:i < n ^ n) (h:i % n ^ n=n ^ n - 1):i+1=n ^ n:=by
 rw [Nat.mod_eq_of_lt hi] at h
 omega
theorem zrc {n:Nat} (hn:0 < n):∀ k,digs n k 0=List.replicate k 1
 | 0=>rfl
 | k+1=>by
  show digs n k (0 / n) ++ [1+((0 % n:Nat):Int)]=_
  rw [Nat.zero_div,Nat.zero_mod,zrc hn k,List.replicate_succ']
  rfl
theorem zlx {n i t:Nat} (hn:0 < n) (h:t < n) (hi:i < n ^ n) (hd:dig n i t≠n - 1):i+1 < n ^ n:=by
 rcases Nat.lt_or_ge (i+1) (n ^ n) with hc | hc
 ·exact hc
 ·exfalso
  apply hd
  have e:i=n ^ n - 1:=by omega
  unfold dig
  have hp:0 < n ^ t:=Nat.pow_pos hn
  obtain ⟨d,hd⟩:∃ d,n=t+(d+1):=⟨n - t - 1,by omega⟩
  have e2:n ^ n=n ^ t * (n ^ d * n):=by
   rw [← Nat.pow_succ,← Nat.pow_add]
   congr 1
  have hq:0 < n ^ d:=Nat.pow_pos hn
  have hm:0 < n ^ d * n:=Nat.mul_pos hq hn
  have h1:n ^ t * (n ^ d * n) - 1=n ^ t * (n ^ d * n - 1)+(n ^ t - 1):=by
   rw [Nat.mul_sub,Nat.mul_one]
   have:n ^ t≤n ^ t * (n ^ d * n):=Nat.le_mul_of_pos_right _ hm
   omega
  rw [e,e2,h1,Nat.mul_add_div hp,Nat.div_eq_of_lt (by omega),Nat.add_zero]
  have h2:n ^ d * n - 1=n * (n ^ d - 1)+(n - 1):=by
   rw [Nat.mul_sub,Nat.mul_one,Nat.mul_comm n]
   have:n≤n ^ d * n:=Nat.le_mul_of_pos_left _ hq
   omega
  rw [h2,Nat.mul_add_mod,Nat.mod_eq_of_lt (by omega)]
end Go.Proofs.YtdamgacabfbpjaaGreat
namespace Go.Proofs.YtdamgacabfbpjaaGreat
def grpH (f:List Int) (k:Nat) (p:Int):List Int:=((List.range k).filter fun r=>decide (pl f r=p)).map fun (r:Nat)=>(r:Int)
def za7 (f:List Int) (n k:Nat):List (List Int):=((List.range k).map fun (p:Nat)=>grpH f n (1+(p:Int))).filter fun g=>decide (g≠[])
def zam (f:List Int) (n:Nat):List (List Int):=za7 f n n
theorem z27 (f:List Int) (k:Nat) (p:Int):grpH f (k+1) p=grpH f k p ++ if pl f k=p then [(k:Int)] else []:=by
 unfold grpH
 rw [List.range_succ,List.filter_append,List.map_append]
 congr 1
 by_cases h:pl f k=p<;>simp [h]
theorem zxs (f:List Int) (n k:Nat):za7 f n (k+1)=za7 f n k ++ if grpH f n (1+(k:Int))=[] then [] else [grpH f n (1+(k:Int))]:=by
 unfold za7
 rw [List.range_succ,List.map_append,List.filter_append]
 congr 1
 by_cases h:grpH f n (1+(k:Int))=[]<;>simp [h]
theorem mem_grpH {f:List Int} {k:Nat} {p x:Int}:x∈grpH f k p↔∃ r:Nat,x=r∧r < k∧pl f r=p:=by
 unfold grpH
 rw [List.mem_map]
 constructor
 ·rintro ⟨r,h,e⟩
  obtain ⟨h1,h2⟩:=List.mem_filter.1 h
  exact ⟨r,e.symm,List.mem_range.1 h1,by simpa using h2⟩
 ·rintro ⟨r,e,h1,h2⟩
  exact ⟨r,List.mem_filter.2 ⟨List.mem_range.2 h1,by simpa using h2⟩,e.symm⟩
theorem zsb (f:List Int) (k:Nat) (p:Int):(grpH f k p).Pairwise (· < ·):=by
 unfold grpH
 rw [List.pairwise_map]
 exact (List.Pairwise.sublist List.filter_sublist List.pairwise_lt_range).imp fun h=>by omega
theorem mem_grpsTo {f:List Int} {n k:Nat} {g:List Int}:g∈za7 f n k↔∃ p:Nat,p < k∧g=grpH f n (1+(p:Int))∧g≠[]:=by
 unfold za7
 rw [List.mem_filter,List.mem_map]
 constructor
 ·rintro ⟨⟨p,h,e⟩,h2⟩
  exact ⟨p,List.mem_range.1 h,e.symm,by simpa using h2⟩
 ·rintro ⟨p,h,e,h2⟩
  exact ⟨⟨p,List.mem_range.2 h,e.symm⟩,by simpa using h2⟩
theorem grps_mem {f:List Int} {n k:Nat} {x:Int}:x∈(za7 f n k).flatten↔∃ r p:Nat,x=r∧r < n∧p < k∧pl f r=1+(p:Int):=by
 rw [List.mem_flatten]
 constructor
 ·rintro ⟨g,hg,hx⟩
  obtain ⟨p,h1,rfl,_⟩:=mem_grpsTo.1 hg
  obtain ⟨r,e,h2,h3⟩:=mem_grpH.1 hx
  exact ⟨r,p,e,h2,h1,h3⟩
 ·rintro ⟨r,p,e,h1,h2,h3⟩
  have hx:x∈grpH f n (1+(p:Int)):=mem_grpH.2 ⟨r,e,h1,h3⟩
  exact ⟨_,mem_grpsTo.2 ⟨p,h2,rfl,fun h=>by rw [h] at hx;cases hx⟩,hx⟩
theorem zrd (f:List Int) (n:Nat):∀ k,(za7 f n k).flatten.Nodup
 | 0=>by simp [za7]
 | k+1=>by
  rw [zxs,List.flatten_append,List.nodup_append]
  refine ⟨zrd f n k,?_,?_⟩
  ·split
   ·simp
   ·simp only [List.flatten_cons,List.flatten_nil,List.append_nil]
    rw [List.nodup_iff_pairwise_ne]
    exact (zsb f n _).imp fun h=>by omega
  ·intro x hx y hy e
   subst e
   obtain ⟨r,p,e1,_,h2,h3⟩:=grps_mem.1 hx
   split at hy
   ·simp at hy
   ·simp only [List.flatten_cons,List.flatten_nil,List.append_nil] at hy
    obtain ⟨r',e2,_,h4⟩:=mem_grpH.1 hy
    have:r=r':=by omega
    subst this
    omega
theorem z49 {b:Bk} (h:b.scr=[]):runL b=(List.range b.n.toNat).map fun (i:Nat)=>(i:Int):=by
 unfold runL runK
 rw [List.filter_eq_self]
 intro a _
 unfold outB
 rw [h];rfl
theorem z5a {b:Bk} {f:List Int} {n:Nat} (hs:b.scr=[]) (hn:b.n=n) (h0:zay b=0) (hf:zaj n f=true):zat b (zam f n)=0:=by
 refine z25 h0 ⟨zn6 h0,?_,fun g hg=>?_,fun g hg=>?_⟩
 ·rw [z49 hs,hn]
  refine (List.perm_ext_iff_of_nodup ?_ (zrd f n n)).2 fun x=>?_
  ·rw [List.nodup_iff_pairwise_ne,List.pairwise_map]
   exact List.pairwise_lt_range.imp fun h=>by omega
  ·show _↔x∈(za7 f n n).flatten
   rw [grps_mem,List.mem_map]
   constructor
   ·rintro ⟨r,hr,e⟩
    have hr:=List.mem_range.1 hr
    simp only [Int.toNat_natCast] at hr
    have hb:=zdu hf hr
    exact ⟨r,(pl f r - 1).toNat,e.symm,hr,by omega,by omega⟩
   ·rintro ⟨r,p,e,h1,_,_⟩
    exact ⟨r,List.mem_range.2 (by simpa using h1),e.symm⟩
 ·obtain ⟨p,_,_,h2⟩:=mem_grpsTo.1 hg
  exact h2
 ·obtain ⟨p,_,rfl,_⟩:=mem_grpsTo.1 hg
  exact rising_iff.2 (zsb f n _)
theorem zpk {f:List Int} {q:Nat→Bool}:∀ {n:Nat},(∃ i,i < n∧q i=true)→∃ i,i < n∧q i=true∧∀ j,j < n→q j=true→pl f i≤pl f j
 | 0,⟨i,h,_⟩=>absurd h (by omega)
 | n+1,⟨i,hi,hq⟩=>by
  by_cases hex:∃ i,i < n∧q i=true
  ·obtain ⟨k,k1,k2,k3⟩:=zpk (f:=f) hex
   by_cases hn:q n=true∧pl f n < pl f k
   ·refine ⟨n,by omega,hn.1,fun j hj hqj=>?_⟩
    rcases Nat.lt_or_ge j n with h | h
    ·have:=k3 j h hqj;omega
    ·have:j=n:=by omega
     subst this;omega
   ·refine ⟨k,by omega,k2,fun j hj hqj=>?_⟩
    rcases Nat.lt_or_ge j n with h | h
    ·exact k3 j h hqj
    ·have:j=n:=by omega
     subst this
     rcases Int.lt_or_le (pl f j) (pl f k) with h | h
     ·exact absurd ⟨hqj,h⟩ hn
     ·exact h
  ·have:i=n:=by
    rcases Nat.lt_or_ge i n with h | h
    ·exact absurd ⟨i,h,hq⟩ hex
    ·omega
   subst this
   refine ⟨i,by omega,hq,fun j hj hqj=>?_⟩
   rcases Nat.lt_or_ge j i with h | h
   ·exact absurd ⟨j,h,hqj⟩ hex
   ·have:j=i:=by omega
    subst this;omega
theorem zpl {f:List Int} {n:Nat} (hn:0 < n) (hf:zaj n f=true):grpH f n 1≠[]:=by
 obtain ⟨i,h1,_,h3⟩:=zpk (f:=f) (q:=fun _=>true) ⟨0,hn,rfl⟩
 have h4:=zhm hf h1
 have h5:below f (pl f i) n=0:=by
  unfold below
  rw [List.countP_eq_zero]
  intro j hj
  have:=h3 j (List.mem_range.1 hj) rfl
  simp;omega
 have:(i:Int)∈grpH f n 1:=mem_grpH.2 ⟨i,rfl,h1,by rw [h5] at h4;omega⟩
 intro e
 rw [e] at this
 cases this
theorem zov {f:List Int} {n:Nat} (_:zaj n f=true) {x:Int} (h:∀ j,j < n→(pl f j < x↔pl f j=1)):below f x n=(grpH f n 1).length:=by
 unfold below grpH
 rw [List.length_map,List.countP_eq_length_filter]
 congr 1
 apply List.filter_congr
 intro j hj
 have:=h j (List.mem_range.1 hj)
 simp only [decide_eq_decide]
 exact this
theorem ztk {f:List Int} {n i:Nat} (hf:zaj n f=true) (hi:i < n) (h2:pl f i=2):(grpH f n 1).length=1:=by
 have h4:=zhm hf hi
 have h5:=zov hf (x:=pl f i) fun j hj=>by
  have:=zdu hf hj
  omega
 omega
theorem ztl {f:List Int} {n:Nat} (hn:2≤n) (hf:zaj n f=true) (h1:(grpH f n 1).length=1):grpH f n 2≠[]:=by
 have hex:∃ i,i < n∧(fun j=>decide (pl f j≠1)) i=true:=by
  apply Classical.byContradiction
  intro hc
  have hall:∀ i,i < n→pl f i=1:=fun i hi=>Classical.byContradiction fun h=>hc ⟨i,hi,by simpa using h⟩
  have m0:(((0:Nat):Int))∈grpH f n 1:=mem_grpH.2 ⟨0,rfl,by omega,hall 0 (by omega)⟩
  have m1:(((1:Nat):Int))∈grpH f n 1:=mem_grpH.2 ⟨1,rfl,by omega,hall 1 (by omega)⟩
  match hg:grpH f n 1,h1 with
  | [z],_ =>
   rw [hg] at m0 m1
   simp only [List.mem_singleton] at m0 m1
   omega
 obtain ⟨i,q1,q2,q3⟩:=zpk (f:=f) hex
 have q2:pl f i≠1:=by simpa using q2
 have h4:=zhm hf q1
 have h5:=zov hf (x:=pl f i) fun j hj=>by
  have hb:=zdu hf hj
  have hb2:=zdu hf q1
  constructor
  ·intro hl
   apply Classical.byContradiction
   intro hne
   have:=q3 j hj (by simpa using hne)
   omega
  ·intro e
   omega
 have:(i:Int)∈grpH f n 2:=mem_grpH.2 ⟨i,rfl,q1,by omega⟩
 intro e
 rw [e] at this
 cases this
theorem zf0 {f:List Int} {n:Nat} (hn:0 < n) (hf:zaj n f=true):(zam f n).headD []=grpH f n 1∧(zam f n).take 1=[grpH f n 1]:=by
 obtain ⟨m,rfl⟩:∃ m,n=m+1:=⟨n - 1,by omega⟩
 have h1:=zpl hn hf
 unfold zam za7
 rw [List.range_succ_eq_map,List.map_cons,List.filter_cons]
 have e:grpH f (m+1) (1+((0:Nat):Int))=grpH f (m+1) 1:=rfl
 rw [e,if_pos (by simpa using h1)]
 simp
theorem z5b {f:List Int} {n:Nat} (hn:2≤n) (hf:zaj n f=true) (h1:(grpH f n 1).length=1):(zam f n).take 2=[grpH f n 1,grpH f n 2]:=by
 obtain ⟨m,rfl⟩:∃ m,n=m+2:=⟨n - 2,by omega⟩
 have k1:=zpl (by omega) hf
 have k2:=ztl hn hf h1
 unfold zam za7
 rw [List.range_succ_eq_map,List.map_cons,List.filter_cons,List.range_succ_eq_map,List.map_cons,List.map_cons,List.filter_cons]
 have e:grpH f (m+2) (1+((0:Nat):Int))=grpH f (m+2) 1:=rfl
 have e2:grpH f (m+2) (1+((Nat.succ 0:Nat):Int))=grpH f (m+2) 2:=rfl
 rw [show m+1+1=m+2 from rfl,e,e2,if_pos (by simpa using k1),if_pos (by simpa using k2)]
 simp
theorem zxt (l:List Int):(zlu l).Perm l:=List.mergeSort_perm _ _
section
variable {b:Bk} {f:List Int} {n:Nat} (hs:b.scr=[]) (hn:b.n=n) (h2:2≤n) (hf:zaj n f=true)
include h2 hf
theorem zch {x:Int}:x∈zaz (zam f n) (grp b (zam f n))↔∃ r:Nat,x=r∧r < n∧(pl f r=1∨(b.kd≠0∧pl f r=2)):=by
 have hm:∀ k,x∈zaz (zam f n) k↔x∈((zam f n).take k).flatten:=fun k=>(zxt _).mem_iff
 rw [hm]
 unfold grp
 rw [(zf0 (by omega) hf).1]
 by_cases hg:b.kd≠0∧(grpH f n 1).length=1
 ·rw [if_pos hg,z5b h2 hf hg.2]
  simp only [List.flatten_cons,List.flatten_nil,List.append_nil,List.mem_append,mem_grpH]
  constructor
  ·rintro (⟨r,e,h,h'⟩ | ⟨r,e,h,h'⟩)
   ·exact ⟨r,e,h,.inl h'⟩
   ·exact ⟨r,e,h,.inr ⟨hg.1,h'⟩⟩
  ·rintro ⟨r,e,h,h' | ⟨_,h'⟩⟩
   ·exact .inl ⟨r,e,h,h'⟩
   ·exact .inr ⟨r,e,h,h'⟩
 ·rw [if_neg hg,(zf0 (by omega) hf).2]
  simp only [List.flatten_cons,List.flatten_nil,List.append_nil,mem_grpH]
  constructor
  ·rintro ⟨r,e,h,h'⟩
   exact ⟨r,e,h,.inl h'⟩
  ·rintro ⟨r,e,h,h' | ⟨hk,h'⟩⟩
   ·exact ⟨r,e,h,h'⟩
   ·exact absurd ⟨hk,ztk hf h h'⟩ hg
theorem zwt (hk:b.kd=0∨b.kd=1) {x y:Int}:(x,y)∈za1 b (zam f n)↔y = -1∧∃ r:Nat,x=r∧r < n∧(pl f r=1∨(b.kd≠0∧pl f r=2)):=by
 have hsg:single b=true:=by unfold single;rcases hk with h | h<;>simp [h]
 unfold za1
 rw [List.mem_flatMap]
 constructor
 ·rintro ⟨a,ha,hx⟩
  unfold zr at hx
  rw [if_pos hsg,List.mem_singleton] at hx
  cases hx
  exact ⟨rfl,(zch h2 hf).1 ha⟩
 ·rintro ⟨rfl,h⟩
  refine ⟨x,(zch h2 hf).2 h,?_⟩
  unfold zr
  rw [if_pos hsg]
  simp
theorem z29 (hk:b.kd=2) {x y:Int} (h:(x,y)∈za1 b (zam f n)):∃ r s:Nat,x=r∧y=s∧r < n∧s < n∧r≠s∧pl f r=1∧pl f s≤2:=by
 have hsg:single b=false:=by unfold single;simp [hk]
 unfold za1 at h
 obtain ⟨a,ha,hx⟩:=List.mem_flatMap.1 h
 unfold zr at hx
 rw [if_neg (by rw [hsg];simp)] at hx
 obtain ⟨c,hc,e⟩:=List.mem_map.1 hx
 cases e
 obtain ⟨hc1,hc2⟩:=List.mem_filter.1 hc
 obtain ⟨r,rfl,hr,hr2⟩:=(zch h2 hf).1 ha
 obtain ⟨s,rfl,hs2,hs3⟩:=(zch h2 hf).1 hc1
 unfold za0 at hc2
 rw [(zf0 (by omega) hf).1] at hc2
 split at hc2
 ·cases hc2
 ·rename_i hne
  refine ⟨r,s,rfl,rfl,hr,hs2,fun e=>hne (.inl (by rw [e])),?_,by omega⟩
  split at hc2
  ·rename_i hl
   rcases hr2 with h | ⟨_,h⟩
   ·exact h
   ·have:=ztk hf hr h
    omega
  ·have hc2:(r:Int)∈grpH f n 1:=by simpa using hc2
   obtain ⟨r',e,_,h⟩:=mem_grpH.1 hc2
   have:r=r':=by omega
   subst this
   exact h
theorem z3a (hk:b.kd=2):za1 b (zam f n)≠[]:=by
 have hsg:single b=false:=by unfold single;simp [hk]
 have key:∀ a c:Int,a∈zaz (zam f n) (grp b (zam f n))→c∈zaz (zam f n) (grp b (zam f n))→za0 b (zam f n) a c=true→za1 b (zam f n)≠[]:=fun a c ha hc hp e=>by
  have:(a,c)∈za1 b (zam f n):=by
   unfold za1
   refine List.mem_flatMap.2 ⟨a,ha,?_⟩
   unfold zr
   rw [if_neg (by rw [hsg];simp)]
   exact List.mem_map.2 ⟨c,List.mem_filter.2 ⟨hc,hp⟩,rfl⟩
  rw [e] at this
  cases this
 have h1:=zpl (by omega) hf
 by_cases hl:(grpH f n 1).length=1
 ·have h3:=ztl h2 hf hl
  obtain ⟨a,ha⟩:=List.exists_mem_of_ne_nil _ h1
  obtain ⟨c,hc⟩:=List.exists_mem_of_ne_nil _ h3
  obtain ⟨r,rfl,hr,hr2⟩:=mem_grpH.1 ha
  obtain ⟨s,rfl,hs2,hs3⟩:=mem_grpH.1 hc
  refine key r s ((zch h2 hf).2 ⟨r,rfl,hr,.inl hr2⟩) ((zch h2 hf).2 ⟨s,rfl,hs2,.inr ⟨by omega,hs3⟩⟩) ?_
  unfold za0
  rw [(zf0 (by omega) hf).1]
  have hne:r≠s:=fun e=>by subst e;omega
  rw [if_neg (by omega),if_neg (by omega),if_pos hk]
  simpa using ha
 ·match hg:grpH f n 1,h1,hl with
  | [z],_,hl=>exact absurd rfl hl
  | z :: y :: l,_,_ =>
   have hup:=zsb f n 1
   rw [hg] at hup
   have hzy:z < y:=(List.pairwise_cons.1 hup).1 y (by simp)
   obtain ⟨r,hr0,hr,hr2⟩:=mem_grpH.1 (show z∈grpH f n 1 by rw [hg];simp)
   obtain ⟨s,hs0,hs2,hs3⟩:=mem_grpH.1 (show y∈grpH f n 1 by rw [hg];simp)
   refine key z y ((zch h2 hf).2 ⟨r,hr0,hr,.inl hr2⟩) ((zch h2 hf).2 ⟨s,hs0,hs2,.inl hs3⟩) ?_
   unfold za0
   rw [(zf0 (by omega) hf).1,hg,if_neg (by omega),if_pos (by simp)]
end
end Go.Proofs.YtdamgacabfbpjaaGreat
namespace Go.Proofs.YtdamgacabfbpjaaGreat
open Go.RowKit Go.Shelf
theorem z9a:El 34 28 1:=El.mk' (bytes:=24) (z:=.slice none 0 0) (by kernel_rfl) (by kernel_rfl) rfl (by omega) (by omega)
structure LL (W:World) (B:Nat) (v:Value) (ps:List (Value × List Int)):Prop where
 own:Owns W B 28 1 v (ps.map fun x=>[x.1])
 each:∀ x∈ps,Owns W B 3 1 x.1 (x.2.map iRow)
theorem LL.nil (W:World) (B:Nat):LL W B (.slice none 0 0) []:=⟨Owns.nil _ _ _ _,by simp⟩
theorem LL.ext {W W':World} {B:Nat} {v:Value} {ps:List (Value × List Int)} (h:LL W B v ps) (e:Ext W W'):LL W' B v ps:=⟨h.own.ext e,fun x hx=>(h.each x hx).ext e⟩
theorem LL.base {W:World} {B B':Nat} {v:Value} {ps:List (Value × List Int)} (h:LL W B v ps) (hB:B'≤B):LL W B' v ps:=⟨h.own.base hB,fun x hx=>(h.each x hx).base hB⟩
theorem LL.kept {S:Nat→Prop} {W W':World} {B:Nat} {v:Value} {ps:List (Value × List Int)} (h:LL W B v ps) (k:Kept S W W') (hs:∀ g,B≤g→S g):LL W' B v ps :=
 ⟨h.own.keptAt k fun g _ hg _ _=>hs g hg,fun x hx=>(h.each x hx).keptAt k fun g _ hg _ _=>hs g hg⟩
structure DelB (W:World) (g sz:Nat) (ps:List (Value × List Int)) (p:(Value × List Int)→Bool) (k m:Nat):Prop where
 hm:m=((ps.take k).filter fun x=>!p x).length
 blk:∃ cur,W.heap[g]? = some (.cells cur 28 (0,0))∧cur.size=sz∧(∀ q,(h:q < m)→cur[q]? = some (((ps.take k).filter fun x=>!p x)[q]'(by omega)).1)∧∀ q,k≤q→(h:q < ps.length)→cur[q]? = some ps[q].1
theorem zl5 {α:Type} (p:α→Bool) (l:List α) (k:Nat) (hk:k < l.length):(l.take (k+1)).filter p=(l.take k).filter p ++ if p l[k] then [l[k]] else []:=by
 rw [List.take_succ_eq_append_getElem hk,List.filter_append]
 congr 1
 simp [List.filter_cons]
theorem DelB.skip {W:World} {g sz:Nat} {ps:List (Value × List Int)} {p:(Value × List Int)→Bool} {k m:Nat} (d:DelB W g sz ps p k m) (hk:k < ps.length) (hp:p ps[k]=true):DelB W g sz ps p (k+1) m:=by
 have e:(ps.take (k+1)).filter (fun x=>!p x)=(ps.take k).filter fun x=>!p x:=by rw [zl5 _ _ _ hk];simp [hp]
 obtain ⟨cur,h1,h2,h3,h4⟩:=d.blk
 refine ⟨by rw [e];exact d.hm,cur,h1,h2,fun q hq=>?_,fun q h h'=>h4 q (by omega) h'⟩
 rw [h3 q hq]
 congr 2
 exact (List.getElem_of_eq e.symm _)
theorem DelB.put {W:World} {g sz:Nat} {ps:List (Value × List Int)} {p:(Value × List Int)→Bool} {k m:Nat} (d:DelB W g sz ps p k m) (hk:k < ps.length) (hp:p ps[k]=false) (hm:m < k) (hs:ps.length≤sz) :
  DelB (W.setCell ⟨g,m,none⟩ ps[k].1) g sz ps p (k+1) (m+1):=by
 have e:(ps.take (k+1)).filter (fun x=>!p x)=((ps.take k).filter fun x=>!p x) ++ [ps[k]]:=by rw [zl5 _ _ _ hk];simp [hp]
 obtain ⟨cur,h1,h2,h3,h4⟩:=d.blk
 have hm':=d.hm
 refine ⟨by rw [e];simp [← hm'],cur.setIfInBounds m ps[k].1,zk h1 _ _,by simpa using h2,fun q hq=>?_,fun q h h'=>?_⟩
 ·have eq:(((ps.take (k+1)).filter fun x=>!p x)[q]'(by rw [e];simp;omega))=(((ps.take k).filter fun x=>!p x) ++ [ps[k]])[q]'(by simp;omega):=List.getElem_of_eq e _
  rw [eq]
  by_cases hqm:q=m
  ·subst hqm
   rw [zhh _ (by omega),List.getElem_append_right (by omega)]
   simp
  ·rw [zi7 _ (by omega),h3 q (by omega),List.getElem_append_left (by omega)]
 ·rw [zi7 _ (by omega)]
  exact h4 q (by omega) h'
theorem DelB.ext {W W':World} (e:Ext W W') {g sz:Nat} {ps:List (Value × List Int)} {p:(Value × List Int)→Bool} {k m:Nat} (d:DelB W g sz ps p k m):DelB W' g sz ps p k m:=by
 obtain ⟨cur,h1,h2⟩:=d.blk
 exact ⟨d.hm,cur,(e.block g (Array.getElem?_eq_some_iff.1 h1).1).trans h1,h2⟩
end Go.Proofs.YtdamgacabfbpjaaGreat
namespace Go.Proofs.YtdamgacabfbpjaaGreat
open Go.RowKit Go.Shelf
theorem IsRows.kept {S:Nat→Prop} {w w':World} (k:Kept S w w') {sz:Nat} {v:Value} {rows:List (List Value)} (hb:rows=[]∨∀ g,v.ownBlock=some g→S g) (hr:IsRows w sz v rows):IsRows w' sz v rows:=by
 obtain ⟨sa,cap,h1,h2,h3,h4⟩:=hr
 refine ⟨sa,cap,h1,h2,h3,?_⟩
 rcases h4 with h4 | ⟨b,off,e,h4⟩
 ·exact .inl h4
 ·rcases hb with hb | hb
  ·exact .inl hb
  ·exact .inr ⟨b,off,e,fun i hi j hj=>k.cell (h4 i hi j hj) (hb b (by rw [h1,e];rfl))⟩
end Go.Proofs.YtdamgacabfbpjaaGreat
namespace Go.Proofs.YtdamgacabfbpjaaGreat
open Go.RowKit Go.Shelf
structure GrpM (W:World) (B gb:Nat) (vs:Nat→Value) (ls:Nat→List Int):Prop where
 hB:B≤gb
 blk:∃ cur:Array Value,W.heap[gb]? = some (.cells cur 28 (0,0))∧cur.size=3∧∀ j,j < 3→cur[j]? = some (vs j)
 own:∀ j,j < 3→Owns W B 3 1 (vs j) ((ls j).map iRow)
 far:∀ i j,i < 3→j < 3→i≠j→∀ g,(vs i).ownBlock=some g→(vs j).ownBlock≠some g
theorem GrpM.lt {W:World} {B gb:Nat} {vs:Nat→Value} {ls:Nat→List Int} (h:GrpM W B gb vs ls):gb < W.heap.size:=by
 obtain ⟨cur,h1,_⟩:=h.blk
 exact (Array.getElem?_eq_some_iff.1 h1).1
theorem GrpM.cell {W:World} {B gb:Nat} {vs:Nat→Value} {ls:Nat→List Int} (h:GrpM W B gb vs ls) (j:Nat) (hj:j < 3):W.cell? ⟨gb,j,none⟩=some (vs j):=by
 obtain ⟨cur,h1,_,h2⟩:=h.blk
 rw [cell_of_row _ _ _ _ _ _ h1]
 exact h2 j hj
theorem GrpM.free {W:World} {B gb:Nat} {vs:Nat→Value} {ls:Nat→List Int} (h:GrpM W B gb vs ls) (o:Nat):W.frozen? ⟨gb,o,none⟩=false:=by
 obtain ⟨cur,h1,_⟩:=h.blk
 simp [World.frozen?,h1]
theorem GrpM.ext {W W':World} (e:Ext W W') {B gb:Nat} {vs:Nat→Value} {ls:Nat→List Int} (h:GrpM W B gb vs ls):GrpM W' B gb vs ls:=by
 obtain ⟨cur,h1,h2⟩:=h.blk
 exact ⟨h.hB,⟨cur,(e.block gb h.lt).trans h1,h2⟩,fun j hj=>(h.own j hj).ext e,h.far⟩
theorem GrpM.other {W:World} {B gb:Nat} {vs:Nat→Value} {ls:Nat→List Int} (h:GrpM W B gb vs ls) {j:Nat} (hj:j < 3):(vs j).ownBlock≠some gb:=by
 intro e
 obtain ⟨cur,h1,_⟩:=h.blk
 rcases (h.own j hj).1.2 with ⟨a,_⟩ | ⟨g,cap,cur',hv,hb,hg,hr⟩
 ·rw [a] at e;cases e
 ·rw [hv] at e
  cases e
  rw [hg] at h1
  have:=(Obj.cells.inj (Option.some.inj h1)).2.1
  exact absurd this (by decide)
theorem GrpM.put {W W1:World} {B gb:Nat} {vs:Nat→Value} {ls:Nat→List Int} (h:GrpM W B gb vs ls) {j:Nat} (hj:j < 3) {v':Value} {l:List Int} (ho:Owns W1 B 3 1 v' (l.map iRow))
  (hk:Kept (fun k=>some k≠(vs j).ownBlock) W W1) (hat:∀ g,v'.ownBlock=some g→(vs j).ownBlock=some g∨W.heap.size≤g):GrpM (W1.setCell ⟨gb,j,none⟩ v') B gb (upd vs j v') (upd ls j l):=by
 obtain ⟨cur,h1,h2,h3⟩:=h.blk
 have hg1:W1.heap[gb]? = some (.cells cur 28 (0,0)):=(hk.same gb h.lt (fun e=>h.other hj e.symm)).trans h1
 refine ⟨h.hB,⟨cur.setIfInBounds j v',zk hg1 _ _,by simpa using h2,fun i hi=>?_⟩,fun i hi=>?_,fun i k hi hk' hne g=>?_⟩
 ·unfold upd
  by_cases e:i=j
  ·subst e;rw [if_pos rfl,zhh _ (by omega)]
  ·rw [if_neg e,zi7 _ (fun e'=>e e'.symm),h3 i hi]
 ·unfold upd
  by_cases e:i=j
  ·subst e;rw [if_pos rfl,if_pos rfl];exact ho.setOther hg1 (by decide) _ _
  ·rw [if_neg e,if_neg e]
   exact ((h.own i hi).keptAt hk fun g _ _ hg _ e'=>h.far i j hi hj e g hg e'.symm).setOther hg1 (by decide) _ _
 ·unfold upd
  by_cases e:i=j
  ·subst e
   rw [if_pos rfl,if_neg (fun e=>hne e.symm)]
   intro hg hg2
   rcases hat g hg with h5 | h5
   ·exact h.far i k hi hk' hne g h5 hg2
   ·have:=((h.own k hk').notOwn g hg2).2;omega
  ·rw [if_neg e]
   by_cases e2:k=j
   ·subst e2
    rw [if_pos rfl]
    intro hg hg2
    rcases hat g hg2 with h5 | h5
    ·exact h.far i k hi hk' hne g hg h5
    ·have:=((h.own i hi).notOwn g hg).2;omega
   ·rw [if_neg e2]
    exact h.far i k hi hk' hne g
theorem LL.fin {W:World} {B:Nat} {v:Value} {ps:List (Value × List Int)} (h:LL W B v ps):IsFin W v ps:=⟨h.own.isRows,fun x hx=>(h.each x hx).oneInts⟩
end Go.Proofs.YtdamgacabfbpjaaGreat
