/-
  Plain: in a graph each place has the places to which it leads: how many turns can be done from a place, which places go on without end, and the rank of all others.
-/
import Derived.Test.YtnfdiohfojjnlaaGreatBb
import Derived.Lib.SliceRun
set_option maxRecDepth 200000
set_option maxHeartbeats 0
namespace Go.Proofs.YtnfdiohfojjnlaaGreat.Tu
open Go.Lib (hid)
section
variable {α:Type}
def lv (nx:α→List α):Nat→α→Bool
 | 0,_=>true
 | m+1,i=>(nx i).any (lv nx m)
def zcp (nx:α→List α) (i:α):Prop:=∀ m,lv nx m i=true
def Rk (nx:α→List α) (i:α) (r:Nat):Prop:=lv nx r i=true∧lv nx (r+1) i=false
variable {nx:α→List α}
theorem z3d:∀ (m:Nat) (i:α),lv nx (m+1) i=true→lv nx m i=true
 | 0,_,_=>rfl
 | m+1,i,h=>by
  unfold lv at h ⊢;rw [List.any_eq_true] at h ⊢;obtain ⟨x,hx,hl⟩:=h;exact ⟨x,hx,z3d m x hl⟩
theorem zy9 {m k:Nat} (i:α) (hk:k≤m) (h:lv nx m i=true):lv nx k i=true:=by
 induction m with
 | zero =>
      obtain rfl:k=0:=by omega
      exact h
 | succ m ih =>
  by_cases e:k=m+1
  ·subst e;exact h
  ·exact ih (by omega) (z3d _ _ h)
theorem Rk.inj {i:α} {r s:Nat} (h:Rk nx i r) (k:Rk nx i s):r=s:=by
 rcases Nat.lt_trichotomy r s with a | a | a
 ·have:=zy9 i (show r+1≤s by omega) k.1
  rw [h.2] at this;cases this
 ·exact a
 ·have:=zy9 i (show s+1≤r by omega) h.1
  rw [k.2] at this;cases this
theorem Rk.unsafe {i:α} {r:Nat} (h:Rk nx i r):¬ zcp nx i:=fun s=>by have:=s (r+1);rw [h.2] at this;cases this
theorem zxa:∀ {m:Nat} {i:α},lv nx m i=false→∃ r,r < m∧Rk nx i r
 | 0,_,h=>by cases h
 | m+1,i,h=>by
  cases e:lv nx m i with
  | true=>exact ⟨m,by omega,e,h⟩
  | false =>
   obtain ⟨r,hr,hk⟩:=zxa e;exact ⟨r,by omega,hk⟩
theorem zab4 (nx:α→List α) (i:α):zcp nx i∨∃ r,Rk nx i r:=by
 by_cases h:∃ m,lv nx m i=false
 ·obtain ⟨m,hm⟩:=h
  obtain ⟨r,_,hr⟩:=zxa hm;exact .inr ⟨r,hr⟩
 ·refine .inl fun m=>?_
  cases e:lv nx m i with
  | true=>rfl
  | false=>exact absurd ⟨m,e⟩ h
def zdt (rk:α→Nat):List α→Nat
 | []=>0
 | x :: l=>max (rk x+1) (zdt rk l)
theorem z3e {rk:α→Nat}:∀ {l:List α} {x:α},x∈l→rk x+1≤zdt rk l
 | y :: l,x,h=>by
  unfold zdt
  rcases List.mem_cons.1 h with e | e
  ·subst e;omega
  ·have:=z3e (rk:=rk) e;omega
theorem z3f {rk:α→Nat}:∀ {l:List α},0 < zdt rk l→∃ x∈l,rk x+1=zdt rk l
 | [],h=>by simp [zdt] at h
 | y :: l,h=>by
  unfold zdt at h ⊢
  by_cases e:zdt rk l≤rk y+1
  ·exact ⟨y,by simp,by omega⟩
  ·obtain ⟨x,hx,he⟩:=z3f (rk:=rk) (l:=l) (by omega)
   exact ⟨x,by simp [hx],by omega⟩
theorem zae6 {i:α} {rk:α→Nat} (h:∀ x∈nx i,Rk nx x (rk x)):Rk nx i (zdt rk (nx i)):=by
 refine ⟨?_,?_⟩
 ·by_cases h0:zdt rk (nx i)=0
  ·rw [h0];rfl
  ·obtain ⟨x,hx,e⟩:=z3f (rk:=rk) (l:=nx i) (by omega)
   rw [← e];unfold lv;rw [List.any_eq_true];exact ⟨x,hx,(h x hx).1⟩
 ·unfold lv
  rw [List.any_eq_false];intro x hx;have h1:=z3e (rk:=rk) hx;intro hl;have:=zy9 x h1 hl;rw [(h x hx).2] at this;cases this
theorem zab5 {S:α→Prop} (h:∀ i,S i→∃ x∈nx i,S x):∀ i,S i→zcp nx i:=by
 intro i hi m
 induction m generalizing i with
 | zero=>rfl
 | succ m ih =>
  obtain ⟨x,hx,hs⟩:=h i hi;unfold lv;rw [List.any_eq_true];exact ⟨x,hx,ih x hs⟩
theorem z62 {i x:α} (hx:x∈nx i) (h:zcp nx x):zcp nx i:=by
 intro m;cases m with
 | zero=>rfl
 | succ m=>unfold lv;rw [List.any_eq_true];exact ⟨x,hx,h m⟩
noncomputable def rowOf (nx:α→List α) (i:α):Int:=by
 classical
 exact if h:∃ r,Rk nx i r then (h.choose:Int) else -1
theorem zz1 {i:α} {r:Nat} (h:Rk nx i r):rowOf nx i=r:=by
 unfold rowOf;rw [dif_pos ⟨r,h⟩,(Exists.choose_spec (⟨r,h⟩:∃ r,Rk nx i r)).inj h]
theorem ztv {i:α} (h:zcp nx i):rowOf nx i = -1:=by
 unfold rowOf;rw [dif_neg fun ⟨r,hr⟩=>hr.unsafe h]
theorem z2m (nx:α→List α) (i:α):(rowOf nx i = -1∧zcp nx i)∨∃ r:Nat,rowOf nx i=r∧Rk nx i r:=by
 rcases zab4 nx i with h | ⟨r,h⟩
 ·exact .inl ⟨ztv h,h⟩
 ·exact .inr ⟨r,zz1 h,h⟩
theorem z63 {i:α}:rowOf nx i < 0↔zcp nx i:=by
 rcases z2m nx i with ⟨e,h⟩ | ⟨r,e,h⟩
 ·simp [e,h]
 ·simp [e,h.unsafe]
end
section
variable {α:Type}
def Wlk (nx:α→List α):Nat→α→α→Prop
 | 0,i,j=>i=j
 | m+1,i,j=>∃ x∈nx i,Wlk nx m x j
variable {nx:α→List α}
theorem Wlk.snoc:∀ {m:Nat} {i j k:α},Wlk nx m i j→k∈nx j→Wlk nx (m+1) i k
 | 0,i,j,k,h,hk=>by cases h;exact ⟨k,hk,rfl⟩
 | m+1,i,j,k,⟨x,hx,h⟩,hk=>⟨x,hx,h.snoc hk⟩
theorem Wlk.last:∀ {m:Nat} {i k:α},Wlk nx (m+1) i k→∃ j,Wlk nx m i j∧k∈nx j
 | 0,i,k,⟨x,hx,h⟩=>by cases h;exact ⟨i,rfl,hx⟩
 | m+1,i,k,⟨x,hx,h⟩=>by
  obtain ⟨j,h1,h2⟩:=h.last;exact ⟨j,⟨x,hx,h1⟩,h2⟩
theorem Wlk.app:∀ {m k:Nat} {i j l:α},Wlk nx m i j→Wlk nx k j l→Wlk nx (m+k) i l
 | 0,k,i,j,l,h,h2=>by cases h;rw [Nat.zero_add];exact h2
 | m+1,k,i,j,l,⟨x,hx,h⟩,h2=>by rw [Nat.succ_add];exact ⟨x,hx,h.app h2⟩
theorem Wlk.lv:∀ {m:Nat} {i j:α},Wlk nx m i j→lv nx m i=true
 | 0,_,_,_=>rfl
 | m+1,i,j,⟨x,hx,h⟩=>by unfold Go.Proofs.YtnfdiohfojjnlaaGreat.Tu.lv;rw [List.any_eq_true];exact ⟨x,hx,h.lv⟩
theorem zxb:∀ {m:Nat} {i:α},lv nx m i=true→∃ j,Wlk nx m i j
 | 0,i,_=>⟨i,rfl⟩
 | m+1,i,h=>by
  unfold Go.Proofs.YtnfdiohfojjnlaaGreat.Tu.lv at h;obtain ⟨x,hx,hl⟩:=List.any_eq_true.1 h;obtain ⟨j,hj⟩:=zxb hl;exact ⟨j,x,hx,hj⟩
def zbk (st:α) (d:α→Nat) (q:List α) (j:Nat):Nat:=if j=0 then 0 else d (q.getD j st)
structure Bfs (nx:α→List α) (st:α) (q:List α) (i:Nat) (seen:List α) (d:α→Nat):Prop where
 head:q.head? = some st
 le:i≤q.length
 new:d st=0
 pos:∀ j,1≤j→j < q.length→0 < d (q.getD j st)
 nodup:q.Nodup
 mem:∀ x,0 < d x→x∈q
 walk:∀ x,0 < d x→Wlk nx (d x) st x
 mono:∀ j k,j≤k→k < q.length→zbk st d q j≤zbk st d q k
 near:∀ k,i < q.length→k < q.length→zbk st d q k≤zbk st d q i+1
 done:∀ j,j < i→∀ y∈nx (q.getD j st),0 < d y∧d y≤zbk st d q j+1
 part:∀ y∈seen,0 < d y∧d y≤zbk st d q i+1
theorem Bfs.start (nx:α→List α) (st:α):Bfs nx st [st] 0 [] (fun _=>0) where
 head:=rfl
 le:=by simp
 new:=rfl
 pos:=fun j h1 h2=>by simp at h2;omega
 nodup:=by simp
 mem:=fun x h=>by simp at h
 walk:=fun x h=>by simp at h
 mono:=fun j k h1 h2=>by
               simp at h2;subst h2;obtain rfl:j=0:=by omega
               exact Nat.le_refl _
 near:=fun k _ h2=>by simp at h2;subst h2;simp [zbk]
 done:=fun j h=>by omega
 part:=by simp
variable {st:α} {q seen:List α} {i:Nat} {d:α→Nat}
theorem Bfs.skip (h:Bfs nx st q i seen d) (hi:i < q.length) {y:α} (hy:0 < d y):Bfs nx st q i (seen ++ [y]) d:=by
 refine { h with part:=fun z hz=>?_ }
 rcases List.mem_append.1 hz with hz | hz
 ·exact h.part z hz
 ·obtain rfl:z=y:=by simpa using hz
  refine ⟨hy,?_⟩;obtain ⟨k,hk,e⟩:=List.getElem_of_mem (h.mem z hy);have hk0:k≠0:=by
   intro h0;subst h0;have:=h.head;rw [List.head?_eq_getElem?,List.getElem?_eq_getElem hk,e] at this;cases this;rw [h.new] at hy;omega
  have:=h.near k hi hk;unfold zbk at this;rw [if_neg hk0,List.getD_eq_getElem?_getD,List.getElem?_eq_getElem hk,Option.getD_some,e] at this;exact this
theorem Bfs.next (h:Bfs nx st q i seen d) (hi:i < q.length) (hs:∀ y∈nx (q.getD i st),y∈seen):Bfs nx st q (i+1) [] d:=by
 refine { h with le:=hi,near:=fun k h1 h2=>?_,done:=fun j hj y hy=>?_,part:=by simp }
 ·have a:=h.near k hi h2
  have b:=h.mono i (i+1) (by omega) h1;omega
 ·by_cases e:j < i
  ·exact h.done j e y hy
  ·obtain rfl:j=i:=by omega
   exact h.part y (hs y hy)
section
variable [DecidableEq α]
def zsq (d:α→Nat) (y:α) (v:Nat):α→Nat:=fun x=>if x=y then v else d x
theorem zg4 (d:α→Nat) (y:α) (v:Nat):zsq d y v y=v:=by simp [zsq]
theorem zdj (d:α→Nat) {x y:α} (v:Nat) (h:x≠y):zsq d y v x=d x:=by simp [zsq,h]
theorem Bfs.add (h:Bfs nx st q i seen d) (hi:i < q.length) {y:α} (hy:d y=0) (hst:y≠st) (hn:y∈nx (q.getD i st)) :
  Bfs nx st (q ++ [y]) i (seen ++ [y]) (zsq d y (zbk st d q i+1)):=by
 have hh:q.head? = some st:=h.head;have hq0:0 < q.length:=by omega
 have hnq:y ∉ q:=by
  intro hm;obtain ⟨k,hk,e⟩:=List.getElem_of_mem hm
  by_cases h0:k=0
  ·subst h0
   rw [List.head?_eq_getElem?,List.getElem?_eq_getElem hk,e] at hh;cases hh;exact hst rfl
  ·have:=h.pos k (by omega) hk
   rw [List.getD_eq_getElem?_getD,List.getElem?_eq_getElem hk,Option.getD_some,e] at this;omega
 have hg:∀ j,j < q.length→(q ++ [y]).getD j st=q.getD j st:=fun j hj=>by
  rw [List.getD_eq_getElem?_getD,List.getD_eq_getElem?_getD,List.getElem?_append_left hj]
 have hl:(q ++ [y]).getD q.length st=y:=by
  rw [List.getD_eq_getElem?_getD,List.getElem?_append_right (Nat.le_refl _)];simp
 have hne:∀ j,j < q.length→q.getD j st≠y:=fun j hj e=>hnq (by
  rw [← e,List.getD_eq_getElem?_getD,List.getElem?_eq_getElem hj];exact List.getElem_mem hj)
 have hfar:∀ j,j < q.length→zbk st (zsq d y (zbk st d q i+1)) (q ++ [y]) j=zbk st d q j:=fun j hj=>by
  unfold zbk
  split
  ·rfl
  ·rw [hg j hj,zdj _ _ (hne j hj)]
 have hfl:zbk st (zsq d y (zbk st d q i+1)) (q ++ [y]) q.length=zbk st d q i+1:=by
  unfold zbk;rw [if_neg (by omega),hl,zg4]
 refine ⟨?_,?_,?_,?_,?_,?_,?_,?_,?_,?_,?_⟩
 ·rw [List.head?_append,hh];rfl
 ·simp;omega
 ·rw [zdj _ _ (fun e=>hst e.symm)];exact h.new
 ·intro j h1 h2
  by_cases e:j < q.length
  ·rw [hg j e,zdj _ _ (hne j e)];exact h.pos j h1 e
  ·obtain rfl:j=q.length:=by simp at h2;omega
   rw [hl,zg4];omega
 ·rw [List.nodup_append]
  refine ⟨h.nodup,by simp,fun a ha b hb=>?_⟩;have hby:b=y:=by simpa using hb
  intro e;rw [e,hby] at ha;exact hnq ha
 ·intro x hx
  by_cases e:x=y
  ·subst e;simp
  ·rw [zdj _ _ e] at hx
   exact List.mem_append_left _ (h.mem x hx)
 ·intro x hx
  by_cases e:x=y
  ·subst e
   rw [zg4];refine Wlk.snoc ?_ hn
   by_cases h0:i=0
   ·have:q.getD i st=st:=by
     subst h0;rw [List.getD_eq_getElem?_getD,← List.head?_eq_getElem?,hh];rfl
    rw [this];simp [zbk,h0,Wlk]
   ·have hp:=h.pos i (by omega) hi
    have:=h.walk _ hp;simpa [zbk,h0] using this
  ·rw [zdj _ _ e] at hx ⊢
   exact h.walk x hx
 ·intro j k h1 h2
  by_cases ek:k < q.length
  ·rw [hfar j (by omega),hfar k ek];exact h.mono j k h1 ek
  ·obtain rfl:k=q.length:=by simp at h2;omega
   rw [hfl]
   by_cases ej:j < q.length
   ·rw [hfar j ej];exact h.near j hi ej
   ·obtain rfl:j=q.length:=by omega
    rw [hfl];exact Nat.le_refl _
 ·intro k _ h2
  rw [hfar i hi]
  by_cases ek:k < q.length
  ·rw [hfar k ek];exact h.near k hi ek
  ·obtain rfl:k=q.length:=by simp at h2;omega
   rw [hfl];exact Nat.le_refl _
 ·intro j hj z hz
  rw [hg j (by omega)] at hz;rw [hfar j (by omega)];have:=h.done j hj z hz;rw [zdj _ _ (fun e=>by rw [e] at this;omega)];exact this
 ·intro z hz
  rw [hfar i hi]
  by_cases e:z=y
  ·subst e;rw [zg4];omega
  ·rw [zdj _ _ e]
   rcases List.mem_append.1 hz with hz | hz
   ·exact h.part z hz
   ·exact absurd (by simpa using hz) e
end
theorem Bfs.reach (h:Bfs nx st q i seen d):∀ (m:Nat) (x:α),1≤m→Wlk nx m st x→(0 < d x∧d x≤m)∨∃ j,i≤j∧j < q.length∧zbk st d q j+1≤m:=by
 have hz0:0 < q.length:=by
  have:=h.head;cases q with
  | nil=>cases this
  | cons a t=>simp
 have hq0:q.getD 0 st=st:=by rw [List.getD_eq_getElem?_getD,← List.head?_eq_getElem?,h.head];rfl
 intro m
 induction m with
 | zero=>intro x h1;omega
 | succ m ih =>
  intro x _ hw;obtain ⟨z,hz,hx⟩:=hw.last
  by_cases hm:m=0
  ·subst hm
   have e:st=z:=hz;subst e
   by_cases hi:0 < i
   ·left
    have:=h.done 0 hi x (by rw [hq0];exact hx);simp [zbk] at this;omega
   ·right
    exact ⟨0,by omega,hz0,by simp [zbk]⟩
  ·rcases ih z (by omega) hz with ⟨a,b⟩ | ⟨j,a,b,c⟩
   ·obtain ⟨k,hk,e⟩:=List.getElem_of_mem (h.mem z a)
    have hk0:k≠0:=by
     intro h0;subst h0;rw [List.getD_eq_getElem?_getD,List.getElem?_eq_getElem hk,Option.getD_some,e] at hq0;rw [hq0,h.new] at a;omega
    have hgk:q.getD k st=z:=by rw [List.getD_eq_getElem?_getD,List.getElem?_eq_getElem hk,Option.getD_some,e]
    have hf:zbk st d q k=d z:=by unfold zbk;rw [if_neg hk0,hgk]
    by_cases hki:k < i
    ·left
     have:=h.done k hki x (by rw [hgk];exact hx);omega
    ·right
     exact ⟨k,by omega,hk,by omega⟩
   ·right
    exact ⟨j,a,b,by omega⟩
theorem Bfs.found (h:Bfs nx st q i seen d) (hi:i < q.length) (hn:st∈nx (q.getD i st)):Wlk nx (zbk st d q i+1) st st∧∀ m,1≤m→Wlk nx m st st→zbk st d q i+1≤m:=by
 have hq0:q.getD 0 st=st:=by rw [List.getD_eq_getElem?_getD,← List.head?_eq_getElem?,h.head];rfl
 refine ⟨Wlk.snoc ?_ hn,fun m hm hw=>?_⟩
 ·by_cases h0:i=0
  ·subst h0
   rw [hq0];simp [zbk,Wlk]
  ·have:=h.walk _ (h.pos i (by omega) hi)
   simpa [zbk,h0] using this
 ·rcases h.reach m st hm hw with ⟨a,_⟩ | ⟨j,a,b,c⟩
  ·rw [h.new] at a;omega
  ·have:=h.mono i j a b
   omega
theorem Bfs.none (h:Bfs nx st q q.length seen d):∀ m,1≤m→¬ Wlk nx m st st:=fun m hm hw=>by
 rcases h.reach m st hm hw with ⟨a,_⟩ | ⟨j,a,b,c⟩
 ·rw [h.new] at a;omega
 ·omega
end
def zq:List Int→Int
 | []=>1
 | k :: l=>(k+1) * zq l
def tchk (ks:List Int):Int :=
 if ks.length < 1∨5 < ks.length then 6 else if ks.any (fun k=>decide (k < 1) || decide (12 < k))=true then 3 else if 1000 < zq ks then 2 else 0
structure TVal (ks:List Int):Prop where
 n1:1≤ks.length
 n5:ks.length≤5
 kb:∀ k∈ks,1≤k∧k≤12
 pr:zq ks≤1000
theorem tval_of {ks:List Int} (e:tchk ks=0):TVal ks:=by
 unfold tchk at e
 by_cases h1:ks.length < 1∨5 < ks.length
 ·rw [if_pos h1] at e;omega
 rw [if_neg h1] at e
 by_cases h2:ks.any (fun k=>decide (k < 1) || decide (12 < k))=true
 ·rw [if_pos h2] at e;omega
 rw [if_neg h2] at e
 by_cases h3:1000 < zq ks
 ·rw [if_pos h3] at e;omega
 refine ⟨by omega,by omega,fun k hk=>?_,by omega⟩
 by_cases h:k < 1∨12 < k
 ·exact absurd (by rw [List.any_eq_true];exact ⟨k,hk,by simp;omega⟩) h2
 ·omega
theorem tchk_of {ks:List Int} (v:TVal ks):tchk ks=0:=by
 unfold tchk;rw [if_neg (by have:=v.n1;have:=v.n5;omega),if_neg,if_neg (by have:=v.pr;omega)];intro h;obtain ⟨k,hk,h⟩:=List.any_eq_true.1 h;have:=v.kb k hk;simp at h;omega
def zaj:List Int→List Int→Bool
 | [],[]=>true
 | k :: ks,s :: ss=>decide (0≤s) && decide (s≤k) && zaj ks ss
 | _,_=>false
theorem zd7:∀ {ks s:List Int},zaj ks s=true→s.length=ks.length
 | [],[],_=>rfl
 | k :: ks,s :: ss,h=>by
  unfold zaj at h;simp only [Bool.and_eq_true] at h;simp [zd7 h.2]
theorem zi0:∀ {ks s:List Int},zaj ks s=true→∀ i,i < ks.length→0≤s.getD i 0∧s.getD i 0≤ks.getD i 0
 | k :: ks,s :: ss,h,i,hi=>by
  unfold zaj at h;simp only [Bool.and_eq_true,decide_eq_true_eq] at h;cases i with
  | zero=>simpa using h.1
  | succ i=>simpa using zi0 h.2 i (by simpa using hi)
theorem zi1:∀ {ks s:List Int},s.length=ks.length→(∀ i,i < ks.length→0≤s.getD i 0∧s.getD i 0≤ks.getD i 0)→zaj ks s=true
 | [],[],_,_=>rfl
 | [],s :: ss,h,_=>by simp at h
 | k :: ks,[],h,_=>by simp at h
 | k :: ks,s :: ss,h,hb=>by
  unfold zaj;have h0:=hb 0 (by simp);simp at h0;rw [zi1 (ks:=ks) (s:=ss) (by simpa using h) fun i hi=>by simpa using hb (i+1) (by simpa using hi)];simp [h0]
def zbr (ks s:List Int):Int:=if tchk ks≠0 then tchk ks else if s.length≠ks.length then 15 else if zaj ks s=true then 0 else 3
theorem zz2 {ks s:List Int} (e:zbr ks s=0):TVal ks∧zaj ks s=true:=by
 unfold zbr at e
 by_cases h1:tchk ks≠0
 ·rw [if_pos h1] at e;exact absurd e h1
 rw [if_neg h1] at e
 by_cases h2:s.length≠ks.length
 ·rw [if_pos h2] at e;omega
 rw [if_neg h2] at e
 by_cases h3:zaj ks s=true
 ·exact ⟨tval_of (by omega),h3⟩
 ·rw [if_neg h3] at e;omega
theorem stErr_of {ks s:List Int} (v:TVal ks) (h:zaj ks s=true):zbr ks s=0:=by
 unfold zbr;rw [if_neg (fun hh=>hh (tchk_of v)),if_neg (fun hh=>hh (zd7 h)),if_pos h]
def zbs (p:Nat→Bool) (ks s:List Int):Bool:=(List.range ks.length).any fun i=>p i && decide (ks.getD i 0 < s.getD i 0+1)
def upP (p:Nat→Bool) (s:List Int):List Int:=s.mapIdx fun i x=>if p i then x+1 else x
theorem zgh (p:Nat→Bool) (s:List Int):(upP p s).length=s.length:=by simp [upP]
theorem zk6 (p:Nat→Bool) (s:List Int) (i:Nat) (hi:i < s.length):(upP p s).getD i 0=if p i then s.getD i 0+1 else s.getD i 0:=by
 unfold upP;rw [List.getD_eq_getElem?_getD,List.getD_eq_getElem?_getD,List.getElem?_mapIdx,List.getElem?_eq_getElem hi];rfl
theorem zdk {p:Nat→Bool} {ks s:List Int}:zbs p ks s=false↔∀ i,i < ks.length→p i=true→s.getD i 0+1≤ks.getD i 0:=by
 unfold zbs;rw [List.any_eq_false]
 constructor
 ·intro h i hi hp
  have:=h i (by simpa using hi);simp [hp] at this;simpa using this
 ·intro h i hi hb
  have:=h i (by simpa using hi);simp at hb;have:=this hb.1;simp at this;omega
theorem zabc {p:Nat→Bool} {ks s:List Int} (h:zaj ks s=true) (hf:zbs p ks s=false):zaj ks (upP p s)=true:=by
 have hl:=zd7 h;refine zi1 (by rw [zgh,hl]) fun i hi=>?_
 have h1:=zi0 h i hi;rw [zk6 p s i (by omega)];cases hp:p i with
 | true=>have:=zdk.1 hf i hi hp;simp only [if_true];omega
 | false=>exact h1
def visit (s:List Int) (w:Nat):List Int:=s.set w 0
theorem zhz (s:List Int) (w:Nat):(visit s w).length=s.length:=by simp [visit]
theorem zg5 (s:List Int) (w i:Nat):(visit s w).getD i 0=if i=w then 0 else s.getD i 0:=by
 unfold visit;rw [List.getD_eq_getElem?_getD,List.getD_eq_getElem?_getD,List.getElem?_set]
 by_cases e:w=i
 ·subst e
  by_cases hl:w < s.length
  ·simp [hl]
  ·simp [hl]
 ·rw [if_neg e,if_neg (fun h=>e h.symm)]
theorem zz3 {ks s:List Int} (h:zaj ks s=true) (hk:∀ i,i < ks.length→0≤ks.getD i 0) (w:Nat):zaj ks (visit s w)=true :=
 zi1 (by rw [zhz,zd7 h]) fun i hi=>by
  rw [zg5]
  split
  ·exact ⟨Int.le_refl _,hk i hi⟩
  ·exact zi0 h i hi
theorem TVal.at_ {ks:List Int} (v:TVal ks) (i:Nat) (hi:i < ks.length):1≤ks.getD i 0∧ks.getD i 0≤12:=by
 have:=v.kb (ks[i]) (List.getElem_mem hi)
 rwa [List.getD_eq_getElem?_getD,List.getElem?_eq_getElem hi,Option.getD_some]
def zbu:Nat→Bool:=fun _=>true
def nxS (ks s:List Int):List (List Int):=if zbs zbu ks s then [] else (List.range ks.length).map (visit (upP zbu s))
theorem ze0 {ks s:List Int} (v:TVal ks) (h:zaj ks s=true):∀ x∈nxS ks s,zaj ks x=true:=by
 intro x hx;unfold nxS at hx
 split at hx
 ·cases hx
 ·rename_i hf
  obtain ⟨w,_,rfl⟩:=List.mem_map.1 hx;exact zz3 (zabc h (by simpa using hf)) (fun i hi=>by have:=v.at_ i hi;omega) w
def zf7:Int→List Int→List Int→Int
 | n,k :: ks,s :: ss=>zf7 (n * (k+1)+s) ks ss
 | n,_,_=>n
def zau (ks s:List Int):Int:=zf7 0 ks s
theorem zc9:∀ {ks:List Int},(∀ k∈ks,0≤k)→1≤zq ks
 | [],_=>by simp [zq]
 | k :: ks,h=>by
  unfold zq;have h1:=zc9 (ks:=ks) fun x hx=>h x (by simp [hx])
  have h2:=h k (by simp);have:=Int.mul_le_mul (show (1:Int)≤k+1 by omega) h1 (by omega) (by omega);omega
theorem zg6:∀ {ks s:List Int} (n:Int),zaj ks s=true→zf7 n ks s=n * zq ks+zf7 0 ks s
 | [],[],n,_=>by simp [zf7,zq]
 | k :: ks,s :: ss,n,h=>by
  unfold zaj at h;simp only [Bool.and_eq_true] at h;unfold zf7 zq;rw [zg6 _ h.2,zg6 (0 * (k+1)+s) h.2,Int.add_mul,Int.zero_mul,Int.zero_add,Int.mul_assoc,Int.add_assoc]
theorem zcl:∀ {ks s:List Int},(∀ k∈ks,0≤k)→zaj ks s=true→0≤zau ks s∧zau ks s < zq ks
 | [],[],_,_=>by simp [zau,zf7,zq]
 | k :: ks,s :: ss,hk,h=>by
  unfold zaj at h;simp only [Bool.and_eq_true,decide_eq_true_eq] at h;have ih:=zcl (ks:=ks) (fun x hx=>hk x (by simp [hx])) h.2;have hp:=zc9 (ks:=ks) fun x hx=>hk x (by simp [hx])
  unfold zau at ih ⊢;unfold zf7 zq;rw [zg6 _ h.2,Int.zero_mul,Int.zero_add];have h1:0≤s * zq ks:=Int.mul_nonneg h.1.1 (by omega);have h2:s * zq ks≤k * zq ks:=Int.mul_le_mul_of_nonneg_right h.1.2 (by omega);rw [Int.add_mul,Int.one_mul];omega
theorem zsr:∀ {ks s t:List Int},(∀ k∈ks,0≤k)→zaj ks s=true→zaj ks t=true→zau ks s=zau ks t→s=t
 | [],[],[],_,_,_,_=>rfl
 | k :: ks,s :: ss,t :: ts,hk,h,h',e=>by
  unfold zaj at h h';simp only [Bool.and_eq_true,decide_eq_true_eq] at h h';have hk':∀ x∈ks,0≤x:=fun x hx=>hk x (by simp [hx])
  have b1:=zcl hk' h.2;have b2:=zcl hk' h'.2;unfold zau at e b1 b2;unfold zf7 at e;rw [zg6 _ h.2,zg6 (0 * (k+1)+t) h'.2,Int.zero_mul,Int.zero_add,Int.zero_add] at e;have hst:s=t:=by
   rcases Int.lt_trichotomy s t with a | a | a
   ·have h3:(s+1) * zq ks≤t * zq ks:=Int.mul_le_mul_of_nonneg_right (by omega) (by omega)
    rw [Int.add_mul,Int.one_mul] at h3;omega
   ·exact a
   ·have h3:(t+1) * zq ks≤s * zq ks:=Int.mul_le_mul_of_nonneg_right (by omega) (by omega)
    rw [Int.add_mul,Int.one_mul] at h3;omega
  subst hst;rw [zsr hk' h.2 h'.2 (by unfold zau;omega)]
def stN:List Int→Int→List Int × Int
 | [],n=>([],n)
 | k :: ks,n=>(((stN ks n).2 % (k+1)) :: (stN ks n).1,(stN ks n).2 / (k+1))
theorem zz4:∀ {ks:List Int} (n:Int),(∀ k∈ks,0≤k)→0≤n→0≤(stN ks n).2
 | [],n,_,h=>h
 | k :: ks,n,hk,h=>by
  unfold stN;exact Int.ediv_nonneg (zz4 n (fun x hx=>hk x (by simp [hx])) h) (by have:=hk k (by simp);omega)
theorem ztw:∀ {ks:List Int} (n:Int),(∀ k∈ks,0≤k)→zaj ks (stN ks n).1=true
 | [],n,_=>rfl
 | k :: ks,n,hk=>by
  have h:=hk k (by simp);unfold stN zaj;rw [ztw n fun x hx=>hk x (by simp [hx])];have h1:=Int.emod_nonneg (stN ks n).2 (show k+1≠0 by omega);have h2:=Int.emod_lt_of_pos (stN ks n).2 (show 0 < k+1 by omega);simp only [Bool.and_true,Bool.and_eq_true,decide_eq_true_eq];omega
theorem zvq:∀ {ks:List Int} (n:Int),(∀ k∈ks,0≤k)→zf7 (stN ks n).2 ks (stN ks n).1=n
 | [],n,_=>rfl
 | k :: ks,n,hk=>by
  have h:=hk k (by simp);have ih:=zvq (ks:=ks) n (fun x hx=>hk x (by simp [hx]));show zf7 ((stN ks n).2 / (k+1) * (k+1)+(stN ks n).2 % (k+1)) ks (stN ks n).1=n;rw [Int.mul_comm,Int.mul_ediv_add_emod];exact ih
theorem z89 {ks:List Int} {n:Int} (hk:∀ k∈ks,0≤k) (h0:0≤n) (h:n < zq ks):(stN ks n).2=0:=by
 have hr:=zz4 n hk h0;have e:=zvq n hk;have hs:=ztw n hk;rw [zg6 _ hs] at e;have hb:=zcl hk hs;unfold zau at hb;have hp:=zc9 hk
 by_cases hz:(stN ks n).2=0
 ·exact hz
 ·exfalso
  have:1 * zq ks≤(stN ks n).2 * zq ks:=Int.mul_le_mul_of_nonneg_right (by omega) (by omega);omega
def zt (ks:List Int) (n:Int):List Int:=(stN ks n).1
theorem z64 {ks:List Int} {n:Int} (hk:∀ k∈ks,0≤k) (h0:0≤n) (h:n < zq ks):zau ks (zt ks n)=n:=by
 have:=zvq n hk;rw [z89 hk h0 h] at this;exact this
theorem zfv {ks s:List Int} (hk:∀ k∈ks,0≤k) (h:zaj ks s=true):zt ks (zau ks s)=s:=by
 have b:=zcl hk h;exact zsr hk (ztw _ hk) h (z64 hk b.1 b.2)
theorem zf0 {ks:List Int} {n:Int} (hk:∀ k∈ks,0≤k):zaj ks (zt ks n)=true:=ztw n hk
theorem TVal.nn {ks:List Int} (v:TVal ks):∀ k∈ks,0≤k:=fun k hk=>by have:=v.kb k hk;omega
theorem nodup_le:∀ (N:Nat) (l:List Nat),l.Nodup→(∀ x∈l,x < N)→l.length≤N
 | 0,l,_,h=>by
  cases l with
  | nil=>simp
  | cons a t=>exact absurd (h a (by simp)) (by omega)
 | N+1,l,hn,h=>by
  by_cases hm:N∈l
  ·have h1:=nodup_le N (l.erase N) (hn.erase N) fun x hx=>by
    have:=(hn.mem_erase_iff).1 hx;have:=h x this.2;omega
   rw [List.length_erase_of_mem hm] at h1;omega
  ·have:=nodup_le N l hn fun x hx=>by
    have:=h x hx
    by_cases e:x=N
    ·subst e;exact absurd hx hm
    ·omega
   omega
theorem nodup_map {α β:Type} (f:α→β):∀ {l:List α},l.Nodup→(∀ x∈l,∀ y∈l,f x=f y→x=y)→(l.map f).Nodup
 | [],_,_=>by simp
 | a :: l,h,hi=>by
  rw [List.nodup_cons] at h;rw [List.map_cons,List.nodup_cons];refine ⟨fun hm=>?_,nodup_map f h.2 fun x hx y hy=>hi x (by simp [hx]) y (by simp [hy])⟩;obtain ⟨x,hx,e⟩:=List.mem_map.1 hm;have:=hi x (by simp [hx]) a (by simp) e;subst this;exact h.1 hx
theorem zxc {ks:List Int} (v:TVal ks) {l:List (List Int)} (hn:l.Nodup) (h:∀ s∈l,zaj ks s=true):(l.length:Int)≤zq ks:=by
 have hm:=nodup_map (fun s=>(zau ks s).toNat) hn fun x hx y hy e=>by
  have a:=zcl v.nn (h x hx);have b:=zcl v.nn (h y hy);exact zsr v.nn (h x hx) (h y hy) (by omega)
 have:=nodup_le (zq ks).toNat _ hm fun x hx=>by
  obtain ⟨s,hs,rfl⟩:=List.mem_map.1 hx;have:=zcl v.nn (h s hs);omega
 rw [List.length_map] at this;have:=zc9 v.nn;omega
theorem zz5 {α:Type} {nx:α→List α}:∀ {r:Nat} {i:α},Rk nx i r→∃ l:List α,l.length=r+1∧l.head? = some i∧(∀ x∈l,∃ k,k≤r∧Rk nx x k)∧l.Nodup∧∀ P:α→Prop,P i→(∀ x,P x→∀ y∈nx x,P y)→∀ x∈l,P x
 | 0,i,h=>⟨[i],rfl,rfl,fun x hx=>⟨0,by omega,by simp at hx;subst hx;exact h⟩,by simp,fun P hp _ x hx=>by simp at hx;subst hx;exact hp⟩
 | r+1,i,h=>by
  have h1:=h.1;unfold lv at h1;obtain ⟨x,hx,hl⟩:=List.any_eq_true.1 h1;have hk:Rk nx x r:=by
   refine ⟨hl,?_⟩;have h2:=h.2;unfold lv at h2;rw [List.any_eq_false] at h2;cases e:lv nx (r+1) x with
   | false=>rfl
   | true=>exact absurd e (h2 x hx)
  obtain ⟨l,a,b,c,d,e⟩:=zz5 hk;refine ⟨i :: l,by simp [a],rfl,fun y hy=>?_,?_,fun P hp hc y hy=>?_⟩
  ·rcases List.mem_cons.1 hy with hy | hy
   ·subst hy;exact ⟨r+1,by omega,h⟩
   ·obtain ⟨k,k1,k2⟩:=c y hy
    exact ⟨k,by omega,k2⟩
  ·rw [List.nodup_cons]
   refine ⟨fun hm=>?_,d⟩;obtain ⟨k,k1,k2⟩:=c i hm;have:=k2.inj h;omega
  ·rcases List.mem_cons.1 hy with hy | hy
   ·subst hy;exact hp
   ·exact e P (hc i hp x hx) hc y hy
theorem zae7 {ks s:List Int} (v:TVal ks) (h:zaj ks s=true) {r:Nat} (hr:Rk (nxS ks) s r):(r:Int) < zq ks:=by
 obtain ⟨l,a,b,c,d,e⟩:=zz5 hr;have:=zxc v d (e (fun s=>zaj ks s=true) h fun x hx y hy=>ze0 v hx y hy);omega
open Go.RowKit
theorem zz6 (l:List Int) (sa:Option Addr) (cap:Nat) (f:Nat) (cs:Array Value) (p:Int→Bool) (w:World)
  (hl:l.length≤9223372036854775807)
  (hs:l=[]∨∃ b off,sa=some ⟨b,off,none⟩∧∀ i,(h:i < l.length)→w.cell? ⟨b,off+i,none⟩=some (.int .i64 l[i]))
  (hcall:∀ args W,(callFunc f args).run Tryz.prog W = .ok (.enter f args) W)
  (hf:∀ x,x∈l→∀ W,Ext w W→Calls Tryz.prog f (#[.int .i64 x] ++ cs) W fun e W'=>e = .returned (.bool (p x))∧Ext W W') :
  Calls Tryz.prog 182 #[.slice sa l.length cap,.func (.func f) #[] cs] w fun e w'=>e = .returned (.int .i64 (znx p l))∧Ext w w':=by
 have Hf:=hid hf;clear hf
 go_enter Tryz.func182,Tryz.ntmps182
 go_wp2
 go_loopw [8] (fun i W=>∃ k:Nat,k≤l.length∧i = .int .i64 k∧(∀ x∈l.take k,p x=false)∧Ext w W) (fun i _=>l.length - (intOf i).toNat)
 case atStart=>exact ⟨0,Nat.zero_le _,rfl,by simp,Below.refl _ _⟩
 case round =>
  obtain ⟨k,hk,rfl,hno,hb⟩:=hrel;have HN:=hid hno;clear hno
  by_cases hlt:k < l.length
  ·have hs':∃ b off,sa=some ⟨b,off,none⟩∧∀ i,(h:i < l.length)→w.cell? ⟨b,off+i,none⟩=some (.int .i64 l[i]):=by
    rcases hs with rfl | h
    ·simp at hlt
    ·exact h
   clear hs;obtain ⟨b,off,rfl,hc⟩:=hs';have hc1:=hc k hlt;have HC:Hid (∀ i,(h:i < l.length)→w.cell? ⟨b,off+i,none⟩=some (.int .i64 l[i])):=hid hc;clear hc;have hcell:=zj hb hc1;clear hc1;go_wp2_with fail;refine (Hf.out l[k] (List.getElem_mem hlt) _ hb).mono ?_
   rintro e W' ⟨rfl,hb'⟩;cases hp:p l[k]
   ·go_wp2
    go_roundw
    case rel=>exact ⟨k+1,by omega,by go_num,zjc hlt HN.out hp,hb.trans' hb'⟩
    case measure=>simp [intOf];omega
   ·go_wp2
    go_ret;exact ⟨zay (zvl hlt HN.out hp).symm,hb.trans' hb'⟩
  ·go_wp2
   go_ret;exact ⟨zay (zpm (zjd hlt HN.out)).symm,hb⟩
theorem ztx (l:List Int) (sa:Option Addr) (cap:Nat) (f:Nat) (cs:Array Value) (p:Int→Bool) (w:World)
  (hl:l.length≤9223372036854775807)
  (hs:l=[]∨∃ b off,sa=some ⟨b,off,none⟩∧∀ i,(h:i < l.length)→w.cell? ⟨b,off+i,none⟩=some (.int .i64 l[i]))
  (hcall:∀ args W,(callFunc f args).run Tryz.prog W = .ok (.enter f args) W)
  (hf:∀ x,x∈l→∀ W,Ext w W→Calls Tryz.prog f (#[.int .i64 x] ++ cs) W fun e W'=>e = .returned (.bool (p x))∧Ext W W') :
  Calls Tryz.prog 117 #[.slice sa l.length cap,.func (.func f) #[] cs] w fun e w'=>e = .returned (.bool (l.any p))∧Ext w w':=by
 have H:=hid (zz6 l sa cap f cs p w hl hs hcall hf);clear hf hs hcall
 go_enter Tryz.func117,Tryz.ntmps117
 go_wp2_with fail;refine H.out.mono ?_
 rintro e W' ⟨rfl,hb⟩
 go_wp2
 all_goals
  go_ret;refine ⟨zd2 ?_,hb⟩;rw [← zsl]
open Go.RowKit Go.Shelf
def inR (lo hi n:Int):Bool:=!(decide (n < lo) || decide (hi < n))
theorem z3g (lo hi:Int) (l:List Int):(!l.any fun n=>decide (n < lo) || decide (hi < n))=l.all (inR lo hi):=by
 induction l with
 | nil=>rfl
 | cons a l ih=>simp only [List.any_cons,List.all_cons,Bool.not_or,← ih,inR]
theorem z2n (n lo hi:Int) (a b:Addr) (w:World) (h1:w.cell? a=some (.int .i64 lo)) (h2:w.cell? b=some (.int .i64 hi)) :
  Calls Tryz.prog 118 #[.int .i64 n,.pointer (some a),.pointer (some b)] w fun e w'=>e = .returned (.bool (decide (n < lo) || decide (hi < n)))∧Ext w w':=by
 go_enter Tryz.func118,Tryz.ntmps118
 go_wp2
 all_goals
  go_ret;exact ⟨zd2 (by simp [*]),Below.refl _ _⟩
theorem zn9 (lo hi:Int) (v:Value) (l:List Int) (w:World) (hv:IsInts w .i64 v l) :
  Calls Tryz.prog 59 #[.int .i64 lo,.int .i64 hi,v] w fun e w'=>e = .returned (.bool (l.all (inR lo hi)))∧Ext w w':=by
 obtain ⟨sa,cap,rfl,h1,h2,h3⟩:=hv.spec;have H3:=hid h3;clear h3 hv
 go_enter Tryz.func59,Tryz.ntmps59
 go_wp2_with fail;have hE:Ext w ((w.alloc (.cells #[.int .i64 lo] 3)).alloc (.cells #[.int .i64 hi] 3)):=((Below.refl _ _).alloc (Nat.le_refl _) _).alloc (by simp) _;have e1:((w.alloc (.cells #[.int .i64 lo] 3)).alloc (.cells #[.int .i64 hi] 3)).cell? ⟨w.heap.size,0,none⟩=some (.int .i64 lo):=by simp [go_sem]
 have e2:((w.alloc (.cells #[.int .i64 lo] 3)).alloc (.cells #[.int .i64 hi] 3)).cell? ⟨w.heap.size+1,0,none⟩=some (.int .i64 hi):=by simp [go_sem]
 refine (ztx l sa cap 118 #[.pointer (some ⟨w.heap.size,0,none⟩),.pointer (some ⟨w.heap.size+1,0,none⟩)] (fun n=>decide (n < lo) || decide (hi < n)) _ (by omega) (H3.out.imp id fun ⟨b,off,e,hc⟩=>⟨b,off,e,fun i hi=>zj hE (hc i hi)⟩)
  (fun args W=>Tryz.call118 args W) (fun x _ W hW=>z2n x lo hi _ _ W (zj hW e1) (zj hW e2))).mono ?_
 rintro e W' ⟨rfl,hb⟩;clear e1 e2
 go_wp2
 all_goals
  go_ret;refine ⟨zd2 (a:=!l.any fun n=>decide (n < lo) || decide (hi < n)) ?_,hE.trans' hb⟩;exact z3g lo hi l
theorem zty {w:World} {b cap:Nat} {x:Int} (h2:1≤cap) (h3:cap≤9223372036854775807) (c0:w.cell? ⟨b,0,none⟩=some (.int .i64 x)) :
  IsInts w .i64 (.slice (some ⟨b,0,none⟩) 1 cap) [x]:=by
 refine IsInts.mk (l:=[x]) (off:=0) (by simpa using h2) h3 fun i hi=>?_
 match i,hi with
 | 0,_=>simpa using c0
theorem zxd:∀ (ks:List Int) (k:Nat) (hk:k < ks.length),zq (ks.take (k+1))=zq (ks.take k) * (ks[k]+1)
 | a :: ks,0,_=>by simp [zq]
 | a :: ks,k+1,hk=>by
  have:=zxd ks k (by simpa using hk);simp only [List.take_succ_cons,zq,this,List.getElem_cons_succ,Int.mul_assoc]
theorem zvr:∀ (ks:List Int),(∀ k∈ks,1≤k∧k≤12)→1≤zq ks∧zq ks≤13 ^ ks.length
 | [],_=>by simp [zq]
 | a :: ks,h=>by
  obtain ⟨h1,h2⟩:=zvr ks fun x hx=>h x (by simp [hx])
  have ha:=h a (by simp);have h3:=Int.mul_le_mul (show a+1≤13 by omega) h2 (by omega) (by omega);have h4:=Int.mul_le_mul (show (1:Int)≤a+1 by omega) h1 (by omega) (by omega);rw [zq,List.length_cons,Int.pow_succ,Int.mul_comm (13 ^ _)];omega
theorem zabd {n:Nat} (h:n≤5):(13:Int) ^ n≤371293:=by
 match n,h with
 | 0,_=>decide
 | 1,_=>decide
 | 2,_=>decide
 | 3,_=>decide
 | 4,_=>decide
 | 5,_=>decide
theorem zz7 (ks:List Int) (kv:Value) (w:World) (hv:IsInts w .i64 kv ks) (h5:ks.length≤5) (hb:∀ k∈ks,1≤k∧k≤12) :
  Calls Tryz.prog 60 #[.agg #[kv]] w fun e w'=>e = .returned (.int .i64 (zq ks))∧Ext w w':=by
 obtain ⟨sa,cap,rfl,h1,h2,-⟩:=hv.spec;have HV:=hid hv;have HB:=hid hb;clear hv hb
 go_enter Tryz.func60,Tryz.ntmps60
 go_wp2_with fail;obtain ⟨w1,hw1⟩:∃ w1,w1=w.alloc (.cells #[.slice sa ks.length cap] 24):=⟨_,rfl⟩
 have hE1:Ext w w1:=by rw [hw1];exact xx
 rw [← hw1];have HE1:=hid hE1;clear hw1 hE1
 go_loopw [3,9] (fun n i W=>∃ k:Nat,k≤ks.length∧i = .int .i64 k∧n = .int .i64 (zq (ks.take k))∧Ext w1 W) (fun _ i _=>ks.length - (intOf i).toNat)
 case atStart=>exact ⟨0,Nat.zero_le _,rfl,by simp [zq],Below.refl _ _⟩
 case round =>
  obtain ⟨k,hk,rfl,rfl,hE⟩:=hrel
  by_cases hlt:k < ks.length
  ·rcases (HV.out.ext (HE1.out.trans' hE)).spec with ⟨sa',cap',e,-,-,hc⟩
   cases e
   rcases hc with hc | ⟨b,off,rfl,hc⟩
   ·rw [hc] at hlt;simp at hlt
   have c0:=hc k hlt;have hx:=HB.out ks[k] (List.getElem_mem hlt);have hpt:=zxd ks k hlt;have hb1:=zvr (ks.take k) fun x hx=>HB.out x (List.mem_of_mem_take hx)
   have hb2:=zvr (ks.take (k+1)) fun x hx=>HB.out x (List.mem_of_mem_take hx)
   have hp1:=zabd (n:=(ks.take k).length) (by simp;omega);have hp2:=zabd (n:=(ks.take (k+1)).length) (by simp;omega);obtain ⟨p,hp⟩:∃ p,p=zq (ks.take k):=⟨_,rfl⟩
   obtain ⟨x,hxx⟩:∃ x,x=ks[k]:=⟨_,rfl⟩
   rw [← hp,← hxx] at hpt;rw [← hp] at hb1 ⊢;rw [← hxx] at c0 hx;rw [hpt] at hb2;have q1:0≤p:=by omega
   have q2:p≤371293:=by omega
   have q3:1≤p * (x+1):=by omega
   have q4:p * (x+1)≤371293:=by omega
   have HPT:=hid hpt;have HE:=hid hE;clear hc hb1 hb2 hp1 hp2 hp hxx hpt hE;go_wp2_with fail;go_roundw
   case rel=>exact ⟨k+1,by omega,by go_num,by rw [HPT.out],HE.out⟩
   case measure=>simp [intOf];omega
  ·obtain rfl:k=ks.length:=by omega
   have HE:=hid (HE1.out.trans' hE);clear hE;go_wp2_with fail;go_ret;exact ⟨by first | rfl | (rw [List.take_length];rfl) | simp,HE.out⟩
theorem zadr (n:Nat) (h:¬ (n < 1∨5 < n)):[(n:Int)].all (inR 1 5)=true:=by simp [inR];omega
theorem zab6 (n:Nat) (h:n < 1∨5 < n):[(n:Int)].all (inR 1 5)=false:=by simp [inR];omega
theorem zab7 {ks:List Int} {lo hi:Int}:ks.all (inR lo hi) = !(ks.any fun k=>decide (k < lo) || decide (hi < k)):=(z3g lo hi ks).symm
theorem zpe (ks:List Int) (kv:Value) (w:World) (hv:IsInts w .i64 kv ks) :
  Calls Tryz.prog 25 #[.agg #[kv]] w fun e w'=>e = .returned (.int .i64 (tchk ks))∧Ext w w':=by
 obtain ⟨sa,cap,rfl,h1,h2,-⟩:=hv.spec;have HV:=hid hv;clear hv
 go_enter Tryz.func25,Tryz.ntmps25
 go_upto_region 1 with (fail);obtain ⟨W0,hW0⟩:∃ W0,W0=w.alloc (.cells #[.slice sa ks.length cap] 24):=⟨_,rfl⟩
 have hE:Ext w W0:=by rw [hW0];exact xx
 have k0:W0.cell? ⟨w.heap.size,0,none⟩=some (.slice sa ks.length cap):=by rw [hW0];simp [go_sem]
 have hz:w.heap.size < W0.heap.size:=World.block_lt_of_cell? _ _ k0;have HS:=hid (HV.out.ext hE);have HW:=hid hE;rw [← hW0];clear hW0 HV hE;go_wp2_with fail;refine zhm (W0:=W0) (g:=⟨W0,Below.refl _ _⟩) xx (zn9 1 5 _ [(ks.length:Int)] _ (zty (by omega) (by omega) (by simp [go_sem]))) fun g1 hgr=>?_
 clear hgr
 by_cases hn:ks.length < 1∨5 < ks.length
 ·rw [zab6 _ hn]
  go_wp2_with fail;go_ret;exact ⟨zay (by unfold tchk;rw [if_pos hn]),HW.out.trans' (zax W0 g1)⟩
 rw [zadr _ hn];go_wp2_with fail;refine zhm (W0:=W0) (g:=g1) xx (zn9 1 12 (.slice sa ks.length cap) ks _ (HS.out.ext xx)) fun g2 hgr=>?_
 clear hgr;rw [zab7];cases hb:ks.any fun k=>decide (k < 1) || decide (12 < k)
 ·have hkb:∀ k∈ks,1≤k∧k≤12:=fun k hk=>by
   have:=(List.any_eq_false.1 hb) k hk;simp at this;omega
  go_wp2_with fail;refine zhm (W0:=W0) (g:=g2) xx (zz7 ks (.slice sa ks.length cap) _ (HS.out.ext xx) (by omega) hkb) fun g3 hgr=>?_
  clear hgr
  by_cases hp:1000 < zq ks
  ·have hp':decide (1000 < zq ks)=true:=by simpa using hp
   go_wp2_with fail;go_ret;exact ⟨zay (by unfold tchk;rw [if_neg hn,hb,if_neg (by simp),if_pos hp]),HW.out.trans' (zax W0 g3)⟩
  ·have hp':decide (1000 < zq ks)=false:=by simpa using hp
   go_wp2_with fail;go_ret;exact ⟨zay (by unfold tchk;rw [if_neg hn,hb,if_neg (by simp),if_neg (show ¬ 1000 < zq ks by omega)]),HW.out.trans' (zax W0 g3)⟩
 ·go_wp2_with fail
  go_ret;exact ⟨zay (by unfold tchk;rw [if_neg hn,if_pos hb]),HW.out.trans' (zax W0 g2)⟩
def gt (s:List Int) (i:Nat):Int:=s.getD i 0
def stA (s:List Int):Array Value:=#[.int .i64 (gt s 0),.int .i64 (gt s 1),.int .i64 (gt s 2),.int .i64 (gt s 3),.int .i64 (gt s 4)]
def stV (s:List Int):Value:=.agg (stA s)
theorem z9a (s:List Int) (w i:Nat):gt (visit s w) i=if i=w then 0 else gt s i:=zg5 s w i
theorem z65 {cur:Array Value} {f:Nat→Int} (h:IntsB cur 5 .i64 f):cur = #[.int .i64 (f 0),.int .i64 (f 1),.int .i64 (f 2),.int .i64 (f 3),.int .i64 (f 4)]:=by
 apply Array.ext_getElem?;intro i
 by_cases hi:i < 5
 ·rw [h.at_ i hi]
  match i,hi with
  | 0,_=>rfl
  | 1,_=>rfl
  | 2,_=>rfl
  | 3,_=>rfl
  | 4,_=>rfl
 ·rw [Array.getElem?_eq_none (by rw [h.size];omega),Array.getElem?_eq_none (by simp;omega)]
theorem zab8 {l:List Int} (h5:l.length≤5):((#[Value.int .i64 0,.int .i64 0,.int .i64 0,.int .i64 0,.int .i64 0]:Array Value).toList.take 0 ++ l.map (Value.int .i64) ++ (#[Value.int .i64 0,.int .i64 0,.int .i64 0,.int .i64 0,.int .i64 0]:Array Value).toList.drop (0+(l.map (Value.int .i64)).length)).toArray=stA l:=by
 match l,h5 with
 | [],_=>rfl
 | [a],_=>rfl
 | [a,b],_=>rfl
 | [a,b,c],_=>rfl
 | [a,b,c,d],_=>rfl
 | [a,b,c,d,e],_=>rfl
theorem zz8 (l:List Int) (lv:Value) (w:World) (hv:IsInts w .i64 lv l) (h0:1≤l.length) (h5:l.length≤5) :
  Calls Tryz.prog 123 #[lv] w fun e w'=>e = .returned (stV l)∧Ext w w':=by
 obtain ⟨sa,cap,rfl,h1,h2,hc⟩:=hv.spec;have HV:=hid hv;have HC:=hid hc;clear hv hc
 go_enter Tryz.func123,Tryz.ntmps123
 go_upto_region 2 with (fail);obtain ⟨W1,hW1⟩:∃ W1,W1=(w.alloc (.cells #[.int .i64 0,.int .i64 0,.int .i64 0,.int .i64 0,.int .i64 0] 69)).alloc (.cells #[.int .i64 0,.int .i64 0,.int .i64 0,.int .i64 0,.int .i64 0] 69):=⟨_,rfl⟩
 have hE:Ext w W1:=by rw [hW1];exact xx
 have hg0:W1.heap[w.heap.size]? = some (.cells #[.int .i64 0,.int .i64 0,.int .i64 0,.int .i64 0,.int .i64 0] 69 (0,0)):=by
  rw [hW1];show (Array.push (Array.push _ _) _)[w.heap.size]? = _;rw [Array.getElem?_push,if_neg (by simp),Array.getElem?_push,if_pos rfl]
 have hg1:W1.heap[w.heap.size+1]? = some (.cells #[.int .i64 0,.int .i64 0,.int .i64 0,.int .i64 0,.int .i64 0] 69 (0,0)):=by
  rw [hW1];show (Array.push (Array.push _ _) _)[w.heap.size+1]? = _;rw [Array.getElem?_push,if_pos (by simp)]
 rw [← hW1];have hclr:∀ ty,(Builtin.clear_ #[22] ty #[.slice (some ⟨w.heap.size+1,0,none⟩) 5 5]).run Tryz.prog W1 = .ok (.tuple #[]) (W1.setCells (w.heap.size+1) 0 (List.replicate 5 (.int .i64 0))):=fun ty =>
  Lib.run_clear_slice _ 22 3 ty (.int .i64 0) (by kernel_rfl) (fun w=>by kernel_rfl) rfl rfl (w.heap.size+1) 0 5 5 (by omega) (fun j hj=>by rw [cell_of_row _ _ _ _ _ _ hg1];match j,hj with | 0,_=>rfl | 1,_=>rfl | 2,_=>rfl | 3,_=>rfl | 4,_=>rfl) (fun j hj=>by simp [World.frozen?,hg1])
 have HE:=hid hE;have HG0:=hid hg0;have HG1:=hid hg1;clear hE hW1 hg0 hg1;go_upto_region 3 with (simp only [hclr]);have hg2:(W1.setCells (w.heap.size+1) 0 [.int .i64 0,.int .i64 0,.int .i64 0,.int .i64 0,.int .i64 0]).heap[w.heap.size+1]? = some (.cells #[.int .i64 0,.int .i64 0,.int .i64 0,.int .i64 0,.int .i64 0] 69 (0,0)) :=
  zp (zp (zp (zp (zp HG1.out 0 _) 1 _) 2 _) 3 _) 4 _
 have hk2:Below (w.heap.size+1) W1 (W1.setCells (w.heap.size+1) 0 [.int .i64 0,.int .i64 0,.int .i64 0,.int .i64 0,.int .i64 0]) :=
  (((((Below.refl _ W1).setCell (by simp) _).setCell (by simp) _).setCell (by simp) _).setCell (by simp) _).setCell (by simp) _
 obtain ⟨W2,hW2⟩:∃ W2,W2=W1.setCells (w.heap.size+1) 0 [.int .i64 0,.int .i64 0,.int .i64 0,.int .i64 0,.int .i64 0]:=⟨_,rfl⟩
 rw [← hW2] at hg2 hk2 ⊢
 rcases HC.out with hl | ⟨b,off,rfl,hc⟩
 ·rw [hl] at h0;simp at h0
 have hsrc:∀ j v,(l.map (Value.int .i64))[j]? = some v→W2.cell? ((⟨b,off,none⟩:Addr).add j)=some v:=fun j v hj=>by
  rw [addr_add];rw [List.getElem?_map] at hj;obtain ⟨x,hx,rfl⟩:=Option.map_eq_some_iff.1 hj;obtain ⟨hjl,rfl⟩:=List.getElem?_eq_some_iff.1 hx;have hcell:=hc j hjl;have hbl:=World.block_lt_of_cell? _ _ hcell;simp only at hbl;exact cell_below hk2 (by simp only;omega) (zj HE.out hcell)
 have hone:∀ v∈l.map (Value.int .i64),v.oneCell'=true:=by
  intro v hv;obtain ⟨x,_,rfl⟩:=List.mem_map.1 hv;rfl
 have hcopy:∀ ty,(Builtin.copy_ #[22,22] ty #[.slice (some ⟨w.heap.size+1,0,none⟩) 5 5,.slice (some ⟨b,off,none⟩) l.length cap]).run Tryz.prog W2 = .ok (goInt (l.map (Value.int .i64)).length) (W2.setRow (w.heap.size+1) (stA l)):=fun ty=>by
  have:=run_copy_row (P:=Tryz.prog) W2 22 22 ty 3 (w.heap.size+1) 0 5 5 ⟨b,off,none⟩ l.length cap #[.int .i64 0,.int .i64 0,.int .i64 0,.int .i64 0,.int .i64 0] 69 (l.map (Value.int .i64)) (by kernel_rfl) (by kernel_rfl) hg2 (by rw [List.length_map];exact (Nat.min_eq_left h5).symm) hsrc (by simp;omega) hone;rw [this]
  congr 2
  exact zab8 h5
 have HG2:=hid hg2;have HK2:=hid (HE.out.trans (hk2.mono (by omega)):Ext w W2);have HK3:=hid hk2;have hb3:Below (w.heap.size+1) W2 (W2.setRow (w.heap.size+1) (stA l)):=below_setRow (Below.refl _ _) (Nat.le_refl _) _;have hg3:=setRow_heap W2 (w.heap.size+1) _ (stA l) 69 (0,0) hg2;clear hW2 hclr hg2 hk2 hsrc hone;go_upto_region 4 with (simp only [hcopy]);obtain ⟨w3,hw3⟩:∃ w3,w3=W2.setRow (w.heap.size+1) (stA l):=⟨_,rfl⟩
 rw [← hw3] at hb3 hg3 ⊢;clear hcopy hw3;have hg3':=hg3;unfold stA at hg3';have c0:w3.cell? ⟨w.heap.size+1,0,none⟩=some (.int .i64 (gt l 0)):=by rw [cell_of_row _ _ _ _ _ _ hg3'];rfl
 have c1:w3.cell? ⟨w.heap.size+1,1,none⟩=some (.int .i64 (gt l 1)):=by rw [cell_of_row _ _ _ _ _ _ hg3'];rfl
 have c2:w3.cell? ⟨w.heap.size+1,2,none⟩=some (.int .i64 (gt l 2)):=by rw [cell_of_row _ _ _ _ _ _ hg3'];rfl
 have c3:w3.cell? ⟨w.heap.size+1,3,none⟩=some (.int .i64 (gt l 3)):=by rw [cell_of_row _ _ _ _ _ _ hg3'];rfl
 have c4:w3.cell? ⟨w.heap.size+1,4,none⟩=some (.int .i64 (gt l 4)):=by rw [cell_of_row _ _ _ _ _ _ hg3'];rfl
 have hr:w3.heap[w.heap.size]? = some (.cells #[.int .i64 0,.int .i64 0,.int .i64 0,.int .i64 0,.int .i64 0] 69 (0,0)) :=
  (hb3.block _ (by omega)).trans ((HK3.out.block _ (by omega)).trans HG0.out)
 have r0:w3.cell? ⟨w.heap.size,0,none⟩=some (.int .i64 0):=by rw [cell_of_row _ _ _ _ _ _ hr];rfl
 have r1:w3.cell? ⟨w.heap.size,1,none⟩=some (.int .i64 0):=by rw [cell_of_row _ _ _ _ _ _ hr];rfl
 have r2:w3.cell? ⟨w.heap.size,2,none⟩=some (.int .i64 0):=by rw [cell_of_row _ _ _ _ _ _ hr];rfl
 have r3:w3.cell? ⟨w.heap.size,3,none⟩=some (.int .i64 0):=by rw [cell_of_row _ _ _ _ _ _ hr];rfl
 have r4:w3.cell? ⟨w.heap.size,4,none⟩=some (.int .i64 0):=by rw [cell_of_row _ _ _ _ _ _ hr];rfl
 have rf:∀ o,w3.frozen? ⟨w.heap.size,o,none⟩=false:=fun o=>by simp [World.frozen?,hr]
 have HW3:=hid (HK2.out.trans (hb3.mono (by omega)):Ext w w3);clear hr hg3 hg3' hb3;go_wp2_with fail;refine bodyPost_ret (v:=stV l) (by simp [results,Tryz.results123,go_sem,stV,stA,r0,r1,r2,r3,r4]) rfl ⟨rfl,?_⟩;exact ((((HW3.out.setCell (Nat.le_refl _) _).setCell (Nat.le_refl _) _).setCell (Nat.le_refl _) _).setCell (Nat.le_refl _) _).setCell (Nat.le_refl _) _
theorem z0a (s:List Int):IntsB (stA s) 5 .i64 (gt s):=⟨rfl,fun j hj=>match j,hj with | 0,_=>rfl | 1,_=>rfl | 2,_=>rfl | 3,_=>rfl | 4,_=>rfl⟩
theorem _root_.Go.Proofs.YtnfdiohfojjnlaaGreat.IntsB.congr {cur:Array Value} {n:Nat} {k:IntKind} {f g:Nat→Int} (h:IntsB cur n k f) (e:∀ j,j < n→f j=g j):IntsB cur n k g:=⟨h.size,fun j hj=>by rw [h.at_ j hj,e j hj]⟩
structure ztz (w:World) (fv:Value) (p:Nat→Bool):Prop where
 ex:∃ (f:Nat) (cs:Array Value),fv = .func (.func f) #[] cs∧(∀ args W,(callFunc f args).run Tryz.prog W = .ok (.enter f args) W) ∧
  ∀ (i:Nat) W,i < 5→Ext w W→Calls Tryz.prog f (#[.int .i64 i] ++ cs) W fun e W'=>e = .returned (.bool (p i))∧Ext W W'
theorem ztz.ext {w w':World} (e:Ext w w') {fv:Value} {p:Nat→Bool} (h:ztz w fv p):ztz w' fv p:=by
 obtain ⟨f,cs,h1,h2,h3⟩:=h.ex;exact ⟨f,cs,h1,h2,fun i W hi hW=>h3 i W hi (e.trans' hW)⟩
theorem z66 (w:World):ztz w (.func (.func 63) #[] #[]) zbu :=
 ⟨63,#[],rfl,fun args W=>Tryz.call63 args W,fun i W _ _=>by
  go_enter Tryz.func63,Tryz.ntmps63
  go_wp2
  go_ret;exact ⟨rfl,Below.refl _ _⟩⟩
def zia (p:Nat→Bool) (s:List Int) (k i:Nat):Int:=if i < k∧p i=true then gt s i+1 else gt s i
theorem z9b {p:Nat→Bool} {s:List Int} {i:Nat}:zia p s s.length i=gt (upP p s) i:=by
 unfold zia
 by_cases hi:i < s.length
 ·unfold gt
  rw [zk6 p s i hi];simp [hi]
 ·rw [if_neg (by omega)]
  unfold gt;rw [List.getD_eq_getElem?_getD,List.getElem?_eq_none (by omega),List.getD_eq_getElem?_getD,List.getElem?_eq_none (by rw [zgh];omega)]
def z3h (p:Nat→Bool) (ks s:List Int) (w:World) (e:Ending) (w':World):Prop :=
 e = .returned (if zbs p ks s then .tuple #[stV [],.bool false] else .tuple #[stV (upP p s),.bool true])∧Ext w w'
theorem z4y (s ks:List Int) (kv fv:Value) (p:Nat→Bool) (w:World) (hv:IsInts w .i64 kv ks) (hp:ztz w fv p) (hl:s.length=ks.length) (h5:ks.length≤5) (hb:∀ i,i < ks.length→0≤gt s i∧gt s i≤1000) :
  Calls Tryz.prog 62 #[stV s,.agg #[kv],fv] w (z3h p ks s w):=by
 obtain ⟨sa,cap,rfl,h1,h2,-⟩:=hv.spec;obtain ⟨f,cs,rfl,hcall,hf⟩:=hp.ex;have HV:=hid hv;have HF:=hid hf;have HB:=hid hb;clear hv hp hf hb;rw [show stV s = .agg (stA s) from rfl]
 go_enter Tryz.func62,Tryz.ntmps62
 go_upto_region 1 with (fail);obtain ⟨W0,hW0⟩:∃ W0,W0=((w.alloc (.cells (stA s) 69)).alloc (.cells #[.slice sa ks.length cap] 24)).alloc (.cells #[.int .i64 0,.int .i64 0,.int .i64 0,.int .i64 0,.int .i64 0] 69):=⟨_,rfl⟩
 have hE:Ext w W0:=by rw [hW0];exact xx
 have hs0:W0.heap[w.heap.size]? = some (.cells (stA s) 69 (0,0)):=by
  rw [hW0];show (Array.push (Array.push (Array.push _ _) _) _)[w.heap.size]? = _;rw [Array.getElem?_push,if_neg (by simp;omega),Array.getElem?_push,if_neg (by simp),Array.getElem?_push,if_pos rfl]
 have hr0:W0.heap[w.heap.size+1+1]? = some (.cells #[.int .i64 0,.int .i64 0,.int .i64 0,.int .i64 0,.int .i64 0] 69 (0,0)):=by
  rw [hW0];show (Array.push (Array.push (Array.push _ _) _) _)[w.heap.size+1+1]? = _;rw [Array.getElem?_push,if_pos (by simp)]
 have k0:W0.cell? ⟨w.heap.size+1,0,none⟩=some (.slice sa ks.length cap):=by rw [hW0];simp [go_sem]
 rw [← hW0];have HE0:=hid hE;have HS0:=hid hs0;have HR0:=hid hr0;clear hW0 hE hs0 hr0;go_wp2_with fail
 go_loopw [13] (fun i W=>∃ (k:Nat) (cur:Array Value),k≤ks.length∧i = .int .i64 k∧(∀ j,j < k→p j=true→gt s j+1≤gt ks j)∧Ext w W∧W.heap[w.heap.size]? = some (.cells cur 69 (0,0))∧IntsB cur 5 .i64 (zia p s k)∧W.heap[w.heap.size+1+1]? = some (.cells #[.int .i64 0,.int .i64 0,.int .i64 0,.int .i64 0,.int .i64 0] 69 (0,0))) (fun i _=>ks.length - (intOf i).toNat)
 case atStart=>exact ⟨0,stA s,by omega,rfl,by omega,HE0.out,HS0.out,(z0a s).congr fun j _=>by unfold zia;rw [if_neg (by omega)],HR0.out⟩
 case round =>
  obtain ⟨k,cur,hk,rfl,hno,hE,hc,hI,hr⟩:=hrel;have HNO:=hid hno;have HR:=hid hr;have HI:=hid hI;have hzw:w.heap.size < wr.heap.size:=(Array.getElem?_eq_some_iff.1 hc).1
  by_cases hlt:k < ks.length
  ·have hk5:(k:Int) < 5:=by omega
   rcases (HV.out.ext hE).spec with ⟨sa',cap',e,-,-,hcc⟩
   cases e
   rcases hcc with hcc | ⟨b,off,rfl,hcc⟩
   ·rw [hcc] at hlt;simp at hlt
   have c0:=hcc k hlt;have hgk:ks[k]=gt ks k:=by unfold gt;rw [List.getD_eq_getElem?_getD,List.getElem?_eq_getElem hlt];rfl
   rw [hgk] at c0;have hki:(k:Int) < (ks.length:Int):=by omega
   have HE:=hid hE;have HC:=hid hc;clear hcc hgk hE hc hI hr hno;go_wp2_with fail;refine (HF.out k _ (by omega) HE.out).mono ?_
   rintro e W1 ⟨rfl,hE1⟩;have hc1:=(hE1.block _ hzw).trans HC.out;have hr1:=(hE1.block _ (Array.getElem?_eq_some_iff.1 HR.out).1).trans HR.out;have HE1:=hid (HE.out.trans' hE1);have HC1:=hid hc1;have HR1:=hid hr1;obtain ⟨b0,b1⟩:=HB.out k hlt;obtain ⟨x,hx⟩:∃ x,x=gt s k:=⟨_,rfl⟩
   obtain ⟨m,hm⟩:∃ m,m=gt ks k:=⟨_,rfl⟩
   have d0:W1.cell? ⟨w.heap.size,k,none⟩=some (.int .i64 x):=by
    rw [cell_of_row _ _ _ _ _ _ hc1,HI.out.at_ k (by omega),hx];unfold zia;rw [if_neg (by omega)]
   have df:W1.frozen? ⟨w.heap.size,k,none⟩=false:=by simp [World.frozen?,hc1]
   have hzw1:w.heap.size < W1.heap.size:=(Array.getElem?_eq_some_iff.1 hc1).1;rw [← hx] at b0 b1;rw [← hm];have HX:=hid hx;have HM:=hid hm;clear hE1 hc1 hr1 c0 hx hm;cases hpk:p k
   ·go_wp2_with fail
    go_roundw
    case rel=>exact ⟨k+1,cur,by omega,by go_num,fun j hj hp=>by
      by_cases e:j=k
      ·subst e;rw [hpk] at hp;cases hp
      ·exact HNO.out j (by omega) hp,HE1.out,HC1.out,HI.out.congr fun j _=>by
      unfold zia
      by_cases e:j=k
      ·subst e;rw [if_neg (by omega),if_neg (by rw [hpk];simp)]
      ·by_cases h:j < k∧p j=true
       ·rw [if_pos h,if_pos ⟨by omega,h.2⟩]
       ·rw [if_neg h,if_neg (fun hh=>h ⟨by omega,hh.2⟩)],HR1.out⟩
    case measure=>simp [intOf];omega
   ·by_cases hfull:m < x+1
    ·have hf':decide (m < x+1)=true:=decide_eq_true hfull
     have hfl:zbs p ks s=true:=by
      cases e:zbs p ks s with
      | true=>rfl
      | false =>
       have:=zdk.1 e k hlt hpk;have h1:=HX.out;have h2:=HM.out;unfold gt at h1 h2;omega
     have HFL:=hid hfl;clear hfl;have r0:W1.cell? ⟨w.heap.size+1+1,0,none⟩=some (.int .i64 0):=by rw [cell_of_row _ _ _ _ _ _ HR1.out];rfl
     have r1:W1.cell? ⟨w.heap.size+1+1,1,none⟩=some (.int .i64 0):=by rw [cell_of_row _ _ _ _ _ _ HR1.out];rfl
     have r2:W1.cell? ⟨w.heap.size+1+1,2,none⟩=some (.int .i64 0):=by rw [cell_of_row _ _ _ _ _ _ HR1.out];rfl
     have r3:W1.cell? ⟨w.heap.size+1+1,3,none⟩=some (.int .i64 0):=by rw [cell_of_row _ _ _ _ _ _ HR1.out];rfl
     have r4:W1.cell? ⟨w.heap.size+1+1,4,none⟩=some (.int .i64 0):=by rw [cell_of_row _ _ _ _ _ _ HR1.out];rfl
     have rf:∀ o,W1.frozen? ⟨w.heap.size+1+1,o,none⟩=false:=fun o=>by simp [World.frozen?,HR1.out]
     have hzr:w.heap.size+1+1 < W1.heap.size:=(Array.getElem?_eq_some_iff.1 HR1.out).1;have hne1:(w.heap.size=w.heap.size+1+1)=False:=eq_false (by omega);have hne2:(w.heap.size+1+1=w.heap.size)=False:=eq_false (by omega);go_wp2_with fail;refine bodyPost_ret (v:=.tuple #[stV [],.bool false]) (by simp [results,Tryz.results62,go_sem,stV,stA,gt,r0,r1,r2,r3,r4]) rfl ⟨by rw [HFL.out];rfl,?_⟩;exact (((((HE1.out.setCell (Nat.le_refl _) _).setCell (by simp only;omega) _).setCell (by simp only;omega) _).setCell (by simp only;omega) _).setCell (by simp only;omega) _).setCell (by simp only;omega) _
    ·have hf':decide (m < x+1)=false:=decide_eq_false hfull
     go_wp2_with fail;go_roundw
     case rel =>
      refine ⟨k+1,cur.setIfInBounds k (.int .i64 (x+1)),by omega,by go_num,fun j hj hp=>?_,HE1.out.setCell (Nat.le_refl _) _,zp HC1.out k _,(HI.out.set k (x+1)).congr fun j hj=>?_,(Below.heap_setCell _ _ _ _ (by simp only;omega)).trans HR1.out⟩
      ·by_cases e:j=k
       ·subst e;rw [← HX.out,← HM.out];omega
       ·exact HNO.out j (by omega) hp
      ·unfold upd zia
       by_cases e:j=k
       ·subst e;rw [if_pos rfl,if_pos ⟨by omega,hpk⟩,HX.out]
       ·rw [if_neg e]
        by_cases h:j < k∧p j=true
        ·rw [if_pos h,if_pos ⟨by omega,h.2⟩]
        ·rw [if_neg h,if_neg (fun hh=>h ⟨by omega,hh.2⟩)]
     case measure=>simp [intOf];omega
  ·obtain rfl:k=ks.length:=by omega
   have hfl:zbs p ks s=false:=zdk.2 fun i hi hp=>HNO.out i hi hp
   have hcur:=z65 hI;subst hcur;rw [← hl] at hI hc;have hst:(#[.int .i64 (zia p s s.length 0),.int .i64 (zia p s s.length 1),.int .i64 (zia p s s.length 2),.int .i64 (zia p s s.length 3),.int .i64 (zia p s s.length 4)]:Array Value)=stA (upP p s):=by
    simp only [z9b];rfl
   rw [hst] at hc;unfold stA at hc;have d0:wr.cell? ⟨w.heap.size,0,none⟩=some (.int .i64 (gt (upP p s) 0)):=by rw [cell_of_row _ _ _ _ _ _ hc];rfl
   have d1:wr.cell? ⟨w.heap.size,1,none⟩=some (.int .i64 (gt (upP p s) 1)):=by rw [cell_of_row _ _ _ _ _ _ hc];rfl
   have d2:wr.cell? ⟨w.heap.size,2,none⟩=some (.int .i64 (gt (upP p s) 2)):=by rw [cell_of_row _ _ _ _ _ _ hc];rfl
   have d3:wr.cell? ⟨w.heap.size,3,none⟩=some (.int .i64 (gt (upP p s) 3)):=by rw [cell_of_row _ _ _ _ _ _ hc];rfl
   have d4:wr.cell? ⟨w.heap.size,4,none⟩=some (.int .i64 (gt (upP p s) 4)):=by rw [cell_of_row _ _ _ _ _ _ hc];rfl
   have r0:wr.cell? ⟨w.heap.size+1+1,0,none⟩=some (.int .i64 0):=by rw [cell_of_row _ _ _ _ _ _ HR.out];rfl
   have r1:wr.cell? ⟨w.heap.size+1+1,1,none⟩=some (.int .i64 0):=by rw [cell_of_row _ _ _ _ _ _ HR.out];rfl
   have r2:wr.cell? ⟨w.heap.size+1+1,2,none⟩=some (.int .i64 0):=by rw [cell_of_row _ _ _ _ _ _ HR.out];rfl
   have r3:wr.cell? ⟨w.heap.size+1+1,3,none⟩=some (.int .i64 0):=by rw [cell_of_row _ _ _ _ _ _ HR.out];rfl
   have r4:wr.cell? ⟨w.heap.size+1+1,4,none⟩=some (.int .i64 0):=by rw [cell_of_row _ _ _ _ _ _ HR.out];rfl
   have rf:∀ o,wr.frozen? ⟨w.heap.size+1+1,o,none⟩=false:=fun o=>by simp [World.frozen?,HR.out]
   have hzr:w.heap.size+1+1 < wr.heap.size:=(Array.getElem?_eq_some_iff.1 HR.out).1;have hne1:(w.heap.size=w.heap.size+1+1)=False:=eq_false (by omega);have hne2:(w.heap.size+1+1=w.heap.size)=False:=eq_false (by omega);have HFL:=hid hfl;have HE:=hid hE;clear hfl hst hc hI hr hno hE;go_wp2_with fail;refine bodyPost_ret (v:=.tuple #[stV (upP p s),.bool true]) (by simp [results,Tryz.results62,go_sem,stV,stA,r0,r1,r2,r3,r4]) rfl ⟨by rw [HFL.out];rfl,?_⟩;exact ((((HE.out.setCell (by simp only;omega) _).setCell (by simp only;omega) _).setCell (by simp only;omega) _).setCell (by simp only;omega) _).setCell (by simp only;omega) _
theorem z2o (s:List Int) (v:Nat) (w:World) (hw:v < 5) :
  Calls Tryz.prog 120 #[stV s,.int .i64 v] w fun e W=>e = .returned (stV (visit s v))∧Ext w W:=by
 unfold stV stA;simp only [z9a]
 rcases (show v=0∨v=1∨v=2∨v=3∨v=4 by omega) with rfl | rfl | rfl | rfl | rfl
 all_goals
  go_enter Tryz.func120,Tryz.ntmps120
  go_wp2_with fail;refine bodyPost_ret (v:=_) (by simp [results,Tryz.results120,go_sem];rfl) rfl ⟨?_,xx⟩;simp
def zxe (ks l:List Int) (w:World) (e:Ending) (w':World):Prop :=
 e = .returned (.tuple #[stV (if zbr ks l=0 then l else []),.int .i64 (zbr ks l)])∧Ext w w'
theorem zvs {ks s:List Int} (h:zaj ks s=true) (i:Nat) (hi:i < ks.length):0≤gt s i∧gt s i≤gt ks i:=zi0 h i hi
theorem inR_iff {lo hi n:Int}:inR lo hi n=true↔lo≤n∧n≤hi:=by unfold inR;simp
theorem z0b {ks l:List Int} (hl:l.length=ks.length):zaj ks l=true↔∀ i,i < l.length→inR 0 (gt ks i) (gt l i)=true :=
 ⟨fun h i hi=>inR_iff.2 (zvs h i (by omega)),fun h=>zi1 hl fun i hi=>inR_iff.1 (h i (by omega))⟩
theorem gt_get {l:List Int} {k:Nat} (h:k < l.length):l[k]=gt l k:=by unfold gt;rw [List.getD_eq_getElem?_getD,List.getElem?_eq_getElem h];rfl
theorem z4z (ks l:List Int) (kv lv:Value) (w:World) (hv:IsInts w .i64 kv ks) (hl:IsInts w .i64 lv l) :
  Calls Tryz.prog 68 #[.agg #[kv],lv] w (zxe ks l w):=by
 obtain ⟨sa,cap,rfl,h1,h2,-⟩:=hv.spec;obtain ⟨la,lcap,rfl,h3,h4,-⟩:=hl.spec;have HV:=hid hv;have HL:=hid hl;clear hv hl
 go_enter Tryz.func68,Tryz.ntmps68
 go_upto_region 1 with (fail);obtain ⟨W0,hW0⟩:∃ W0,W0=(w.alloc (.cells #[.slice sa ks.length cap] 24)).alloc (.cells #[.int .i64 0,.int .i64 0,.int .i64 0,.int .i64 0,.int .i64 0] 69):=⟨_,rfl⟩
 have hE:Ext w W0:=by rw [hW0];exact xx
 have k0:W0.cell? ⟨w.heap.size,0,none⟩=some (.slice sa ks.length cap):=by rw [hW0];simp [go_sem]
 have hr0:W0.heap[w.heap.size+1]? = some (.cells #[.int .i64 0,.int .i64 0,.int .i64 0,.int .i64 0,.int .i64 0] 69 (0,0)):=by
  rw [hW0];show (Array.push (Array.push _ _) _)[w.heap.size+1]? = _;rw [Array.getElem?_push,if_pos (by simp)]
 have hz:w.heap.size < W0.heap.size:=World.block_lt_of_cell? _ _ k0;have HS:=hid (HV.out.ext hE);have HT:=hid (HL.out.ext hE);have HW:=hid hE;have HR0:=hid hr0;rw [← hW0];clear hW0 HV HL hE hr0;go_wp2_with fail;refine zhm (W0:=W0) (g:=⟨W0,Below.refl _ _⟩) xx (zpe ks _ _ (HS.out.ext xx)) fun g1 hgr=>?_
 clear hgr;have hrg:=((zax W0 g1).block _ (Array.getElem?_eq_some_iff.1 HR0.out).1).trans HR0.out;have HRG:=hid hrg;have HEG:=hid (HW.out.trans' (zax W0 g1));clear hrg
 by_cases hc:tchk ks=0
 rotate_left
 ·have hc1:(tchk ks == 0)=false:=by simpa using hc
  have hc2:(tchk ks != 0)=true:=by simpa using hc
  have hst:zbr ks l=tchk ks:=by unfold zbr;rw [if_pos hc]
  have HST:=hid hst;have HC:=hid hc;clear hc hst;have r0:(grow W0 g1).cell? ⟨w.heap.size+1,0,none⟩=some (.int .i64 0):=by rw [cell_of_row _ _ _ _ _ _ HRG.out];rfl
  have r1:(grow W0 g1).cell? ⟨w.heap.size+1,1,none⟩=some (.int .i64 0):=by rw [cell_of_row _ _ _ _ _ _ HRG.out];rfl
  have r2:(grow W0 g1).cell? ⟨w.heap.size+1,2,none⟩=some (.int .i64 0):=by rw [cell_of_row _ _ _ _ _ _ HRG.out];rfl
  have r3:(grow W0 g1).cell? ⟨w.heap.size+1,3,none⟩=some (.int .i64 0):=by rw [cell_of_row _ _ _ _ _ _ HRG.out];rfl
  have r4:(grow W0 g1).cell? ⟨w.heap.size+1,4,none⟩=some (.int .i64 0):=by rw [cell_of_row _ _ _ _ _ _ HRG.out];rfl
  have rf:∀ o,(grow W0 g1).frozen? ⟨w.heap.size+1,o,none⟩=false:=fun o=>by simp [World.frozen?,HRG.out]
  have hzr:w.heap.size+1 < (grow W0 g1).heap.size:=(Array.getElem?_eq_some_iff.1 HRG.out).1;go_wp2_with fail;refine bodyPost_ret (v:=.tuple #[stV [],.int .i64 (zbr ks l)]) (by simp [results,Tryz.results68,go_sem,stV,stA,gt,r0,r1,r2,r3,r4];rw [HST.out]) rfl ⟨by rw [if_neg (fun hh=>HC.out (HST.out.symm.trans hh))],?_⟩;exact ((((HEG.out.setCell (by simp only;omega) _).setCell (by simp only;omega) _).setCell (by simp only;omega) _).setCell (by simp only;omega) _).setCell (by simp only;omega) _
 have hc1:(tchk ks == 0)=true:=by simpa using hc
 have hc2:(tchk ks != 0)=false:=by simpa using hc
 by_cases hn:l.length=ks.length
 rotate_left
 ·have hn1:((l.length:Int) == (ks.length:Int))=false:=by simp;omega
  have hn2:((l.length:Int) != (ks.length:Int))=true:=by simp;omega
  have hst:zbr ks l=15:=by unfold zbr;rw [if_neg (fun h=>h hc),if_pos hn]
  have HST:=hid hst;have HC:=hid hc;clear hc hst hn;rw [HC.out];have r0:(grow W0 g1).cell? ⟨w.heap.size+1,0,none⟩=some (.int .i64 0):=by rw [cell_of_row _ _ _ _ _ _ HRG.out];rfl
  have r1:(grow W0 g1).cell? ⟨w.heap.size+1,1,none⟩=some (.int .i64 0):=by rw [cell_of_row _ _ _ _ _ _ HRG.out];rfl
  have r2:(grow W0 g1).cell? ⟨w.heap.size+1,2,none⟩=some (.int .i64 0):=by rw [cell_of_row _ _ _ _ _ _ HRG.out];rfl
  have r3:(grow W0 g1).cell? ⟨w.heap.size+1,3,none⟩=some (.int .i64 0):=by rw [cell_of_row _ _ _ _ _ _ HRG.out];rfl
  have r4:(grow W0 g1).cell? ⟨w.heap.size+1,4,none⟩=some (.int .i64 0):=by rw [cell_of_row _ _ _ _ _ _ HRG.out];rfl
  have rf:∀ o,(grow W0 g1).frozen? ⟨w.heap.size+1,o,none⟩=false:=fun o=>by simp [World.frozen?,HRG.out]
  have hzr:w.heap.size+1 < (grow W0 g1).heap.size:=(Array.getElem?_eq_some_iff.1 HRG.out).1;go_wp2_with fail;refine bodyPost_ret (v:=.tuple #[stV [],.int .i64 (zbr ks l)]) (by simp [results,Tryz.results68,go_sem,stV,stA,gt,r0,r1,r2,r3,r4];rw [HST.out]) rfl ⟨by rw [if_neg (fun hh=>absurd (HST.out.symm.trans hh) (by decide))],?_⟩;exact ((((HEG.out.setCell (by simp only;omega) _).setCell (by simp only;omega) _).setCell (by simp only;omega) _).setCell (by simp only;omega) _).setCell (by simp only;omega) _
 have hn1:((l.length:Int) == (ks.length:Int))=true:=by simp;omega
 have hn2:((l.length:Int) != (ks.length:Int))=false:=by simp;omega
 have V:=hid (tval_of hc);have HC:=hid hc;have HN:=hid hn;rw [hc];clear hc hc1 hc2 hn;go_upto_region 6 with (fail);have hrg:=HRG.out;obtain ⟨W1,hW1⟩:∃ zz9,zz9=(grow W0 g1):=⟨_,rfl⟩
 have eW1:Ext W0 W1:=by rw [hW1];exact xx
 replace k0:=zj eW1 k0;replace HS:=hid (HS.out.ext eW1);replace HT:=hid (HT.out.ext eW1);replace HW:=hid (HW.out.trans' eW1);rw [← hW1] at hrg ⊢;replace hz:=World.block_lt_of_cell? _ _ k0;clear hW1 eW1;replace HRG:=hid hrg;clear hrg;go_wp2_with fail
 go_loopw [26] (fun i W=>∃ k:Nat,k≤l.length∧i = .int .i64 k∧(∀ j,j < k→inR 0 (gt ks j) (gt l j)=true)∧Ext W1 W) (fun i _=>l.length - (intOf i).toNat)
 case atStart=>exact ⟨0,by omega,rfl,by omega,Below.refl _ _⟩
 case round =>
  obtain ⟨k,hk,rfl,hno,hE⟩:=hrel;have HNO:=hid hno;have HE:=hid hE;have k0':=zj hE k0;have hzr':w.heap.size < wr.heap.size:=World.block_lt_of_cell? _ _ k0'
  by_cases hlt:k < l.length
  ·have hkl:k < ks.length:=by have:=HN.out;omega
   rcases (HS.out.ext hE).spec with ⟨sa',cap',e,-,-,hcc⟩
   cases e
   rcases hcc with hcc | ⟨b,off,rfl,hcc⟩
   ·rw [hcc] at hkl;simp at hkl
   rcases (HT.out.ext hE).spec with ⟨la',lcap',e,-,-,hdd⟩
   cases e
   rcases hdd with hdd | ⟨lb,loff,rfl,hdd⟩
   ·rw [hdd] at hlt;simp at hlt
   have c0:=hcc k hkl;have d0:=hdd k hlt;rw [gt_get hkl] at c0;rw [gt_get hlt] at d0;have hki:(k:Int) < (ks.length:Int):=by omega
   have hki2:(k:Int) < (l.length:Int):=by omega
   obtain ⟨x,hx⟩:∃ x,x=gt l k:=⟨_,rfl⟩
   obtain ⟨m,hm⟩:∃ m,m=gt ks k:=⟨_,rfl⟩
   rw [← hm] at c0;rw [← hx] at d0;have HX:=hid hx;have HM:=hid hm;clear hcc hdd hno hE hx hm;go_wp2_with fail;refine (zn9 0 m _ [x] _ (zty (by omega) (by omega) (by simp [go_sem]))).mono ?_
   rintro e W2 ⟨rfl,hE2⟩;have HE2:=hid (Ext.trans' HE.out (Ext.trans' (by exact xx) hE2):Ext W1 W2);clear hE2;cases hin:[x].all (inR 0 m)
   ·have hst:zbr ks l=3:=by
     unfold zbr;rw [if_neg (fun h=>h HC.out),if_neg (fun h=>h HN.out),if_neg];intro h;have:=(z0b HN.out).1 h k hlt;rw [← HX.out,← HM.out] at this;simp [this] at hin
    have HST:=hid hst;have hrg:=(HE2.out.block _ (Array.getElem?_eq_some_iff.1 HRG.out).1).trans HRG.out;have HRG2:=hid hrg;have HEG2:=hid (HW.out.trans' HE2.out);clear hst hrg;have r0:W2.cell? ⟨w.heap.size+1,0,none⟩=some (.int .i64 0):=by rw [cell_of_row _ _ _ _ _ _ HRG2.out];rfl
    have r1:W2.cell? ⟨w.heap.size+1,1,none⟩=some (.int .i64 0):=by rw [cell_of_row _ _ _ _ _ _ HRG2.out];rfl
    have r2:W2.cell? ⟨w.heap.size+1,2,none⟩=some (.int .i64 0):=by rw [cell_of_row _ _ _ _ _ _ HRG2.out];rfl
    have r3:W2.cell? ⟨w.heap.size+1,3,none⟩=some (.int .i64 0):=by rw [cell_of_row _ _ _ _ _ _ HRG2.out];rfl
    have r4:W2.cell? ⟨w.heap.size+1,4,none⟩=some (.int .i64 0):=by rw [cell_of_row _ _ _ _ _ _ HRG2.out];rfl
    have rf:∀ o,W2.frozen? ⟨w.heap.size+1,o,none⟩=false:=fun o=>by simp [World.frozen?,HRG2.out]
    have hzr:w.heap.size+1 < W2.heap.size:=(Array.getElem?_eq_some_iff.1 HRG2.out).1;go_wp2_with fail;refine bodyPost_ret (v:=.tuple #[stV [],.int .i64 (zbr ks l)]) (by simp [results,Tryz.results68,go_sem,stV,stA,gt,r0,r1,r2,r3,r4];rw [HST.out]) rfl ⟨by rw [if_neg (fun hh=>absurd (HST.out.symm.trans hh) (by decide))],?_⟩;exact ((((HEG2.out.setCell (by simp only;omega) _).setCell (by simp only;omega) _).setCell (by simp only;omega) _).setCell (by simp only;omega) _).setCell (by simp only;omega) _
   ·have HIN:=hid hin
    clear hin;go_wp2_with fail;go_roundw
    case rel=>exact ⟨k+1,by omega,by go_num,fun j hj=>by
     by_cases e:j=k
     ·subst e;rw [← HX.out,← HM.out];simpa using HIN.out
     ·exact HNO.out j (by omega),HE2.out⟩
    case measure=>simp [intOf];omega
  ·obtain rfl:k=l.length:=by omega
   have hst:zbr ks l=0:=by
    unfold zbr;rw [if_neg (fun h=>h HC.out),if_neg (fun h=>h HN.out),if_pos ((z0b HN.out).2 hno)]
   have h5:=V.out.n5;have h6:=V.out.n1;have h7:=HN.out;have hl5:l.length≤5:=by omega
   have hl1:1≤l.length:=by omega
   have HST:=hid hst;clear h7 hst hno hE;go_wp2_with fail;refine (zz8 l _ _ (HT.out.ext HE.out) hl1 hl5).mono ?_
   rintro e W2 ⟨rfl,hE2⟩;have HE2:=hid (HE.out.trans' hE2);have hrg:=(HE2.out.block _ (Array.getElem?_eq_some_iff.1 HRG.out).1).trans HRG.out;have HRG2:=hid hrg;have HEG2:=hid (HW.out.trans' HE2.out);rw [show stV l = .agg (stA l) from rfl];unfold stA;have r0:W2.cell? ⟨w.heap.size+1,0,none⟩=some (.int .i64 0):=by rw [cell_of_row _ _ _ _ _ _ HRG2.out];rfl
   have r1:W2.cell? ⟨w.heap.size+1,1,none⟩=some (.int .i64 0):=by rw [cell_of_row _ _ _ _ _ _ HRG2.out];rfl
   have r2:W2.cell? ⟨w.heap.size+1,2,none⟩=some (.int .i64 0):=by rw [cell_of_row _ _ _ _ _ _ HRG2.out];rfl
   have r3:W2.cell? ⟨w.heap.size+1,3,none⟩=some (.int .i64 0):=by rw [cell_of_row _ _ _ _ _ _ HRG2.out];rfl
   have r4:W2.cell? ⟨w.heap.size+1,4,none⟩=some (.int .i64 0):=by rw [cell_of_row _ _ _ _ _ _ HRG2.out];rfl
   have rf:∀ o,W2.frozen? ⟨w.heap.size+1,o,none⟩=false:=fun o=>by simp [World.frozen?,HRG2.out]
   have hzr:w.heap.size+1 < W2.heap.size:=(Array.getElem?_eq_some_iff.1 HRG2.out).1;clear hrg hE2;go_wp2_with fail;refine bodyPost_ret (v:=.tuple #[stV l,.int .i64 (zbr ks l)]) (by simp [results,Tryz.results68,go_sem,stV,stA,r0,r1,r2,r3,r4];rw [HST.out]) rfl ⟨by rw [if_pos HST.out],?_⟩;exact ((((HEG2.out.setCell (by simp only;omega) _).setCell (by simp only;omega) _).setCell (by simp only;omega) _).setCell (by simp only;omega) _).setCell (by simp only;omega) _
end Go.Proofs.YtnfdiohfojjnlaaGreat.Tu
