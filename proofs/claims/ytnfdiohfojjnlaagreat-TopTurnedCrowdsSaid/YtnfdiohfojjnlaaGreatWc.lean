/-
  Plain: people who are served before a bell: who waits, who is served first, and that nobody is shut out where no crowd is too great.
-/
import Derived.ProofKit
import Derived.Test.YtnfdiohfojjnlaaGreatBb
import Derived.Test.YtnfdiohfojjnlaaGreatXe
import Derived.Test.YtnfdiohfojjnlaaGreatBa
set_option maxRecDepth 200000
set_option maxHeartbeats 0
namespace Go.Proofs.YtnfdiohfojjnlaaGreat
open Go.Lib (hid)
def leW (u:Nat→Nat) (i j:Nat):Bool:=decide (u i < u j) || (u i == u j && decide (i≤j))
def zeq (u:Nat→Nat):List Nat→Nat
 | []=>0
 | [x]=>x
 | x :: y :: l=>let m:=zeq u (y :: l);if leW u x m then x else m
theorem zn7 (u:Nat→Nat) (i:Nat):leW u i i=true:=by simp [leW]
theorem zw1 {u:Nat→Nat} {i j k:Nat} (h1:leW u i j=true) (h2:leW u j k=true):leW u i k=true:=by
 simp only [leW,Bool.or_eq_true,Bool.and_eq_true,decide_eq_true_eq,beq_iff_eq] at *;omega
theorem zw2 {u:Nat→Nat} {i j:Nat} (h:¬ leW u i j=true):leW u j i=true:=by
 simp only [leW,Bool.or_eq_true,Bool.and_eq_true,decide_eq_true_eq,beq_iff_eq] at *;omega
theorem z82 {u:Nat→Nat} {i j:Nat} (h1:leW u i j=true) (h2:leW u j i=true):i=j:=by
 simp only [leW,Bool.or_eq_true,Bool.and_eq_true,decide_eq_true_eq,beq_iff_eq] at *;omega
theorem zae5 {u:Nat→Nat} {i j:Nat} (h:leW u i j=true):u i≤u j:=by
 simp only [leW,Bool.or_eq_true,Bool.and_eq_true,decide_eq_true_eq,beq_iff_eq] at *;omega
theorem zji (u:Nat→Nat):∀ l:List Nat,l≠[]→zeq u l∈l∧∀ x∈l,leW u (zeq u l) x=true
 | [],h=>absurd rfl h
 | [x],_=>⟨List.mem_singleton.2 rfl,fun y hy=>by rw [List.mem_singleton.1 hy];exact zn7 u x⟩
 | x :: y :: l,_=>by
  obtain ⟨h1,h2⟩:=zji u (y :: l) (by simp);rw [zeq]
  by_cases h:leW u x (zeq u (y :: l))=true
  ·rw [if_pos h]
   refine ⟨List.mem_cons_self,fun z hz=>?_⟩
   rcases List.mem_cons.1 hz with rfl | hz
   ·exact zn7 u z
   ·exact zw1 h (h2 z hz)
  ·rw [if_neg h]
   refine ⟨List.mem_cons_of_mem _ h1,fun z hz=>?_⟩
   rcases List.mem_cons.1 hz with rfl | hz
   ·exact zw2 h
   ·exact h2 z hz
theorem z28 {u:Nat→Nat} {l:List Nat} {m:Nat} (hm:m∈l) (h:∀ x∈l,leW u m x=true):m=zeq u l:=by
 have hn:l≠[]:=fun e=>by rw [e] at hm;cases hm
 obtain ⟨h1,h2⟩:=zji u l hn;exact z82 (h _ h1) (h2 _ hm)
def zds (cm u:Nat→Nat) (t k:Nat):List Nat:=(List.range k).filter fun i=>cm i == t && decide (t≤u i)
theorem zpq (cm u:Nat→Nat) (t k:Nat):zds cm u t (k+1)=zds cm u t k ++ if cm k=t∧t≤u k then [k] else []:=by
 unfold zds;rw [List.range_succ,List.filter_append]
 congr 1
 by_cases h:cm k=t∧t≤u k
 ·rw [if_pos h];simp [h.1,h.2]
 ·rw [if_neg h]
  have:(cm k == t && decide (t≤u k))=false:=by
   rw [Bool.eq_false_iff];intro e;simp only [Bool.and_eq_true,beq_iff_eq,decide_eq_true_eq] at e;exact h e
  simp [this]
structure SW where
 out:List Nat
 ws:List Nat
 shut:Nat
def stepW (u:Nat→Nat) (t:Nat) (s:SW):SW:=if s.ws=[] then s else ⟨s.out.set (zeq u s.ws) t,s.ws.erase (zeq u s.ws),s.shut⟩
def zaw (u:Nat→Nat) (t:Nat):Nat→SW→SW
 | 0,s=>s
 | k+1,s=>stepW u t (zaw u t k s)
def ztn (u:Nat→Nat) (t:Nat) (s:SW):SW:=⟨s.out,s.ws.filter fun i=>u i != t,s.shut+s.ws.countP fun i=>u i == t⟩
def dayW (cm u:Nat→Nat) (n k t:Nat) (s:SW):SW:=ztn u t (zaw u t k ⟨s.out,s.ws ++ zds cm u t n,s.shut⟩)
def toW (cm u:Nat→Nat) (n k:Nat):Nat→SW
 | 0=>⟨List.replicate n 0,[],0⟩
 | t+1=>dayW cm u n k (t+1) (toW cm u n k t)
def zfi (cm u:Nat→Nat) (n a c b:Nat):Nat:=((List.range n).filter fun i=>decide (a≤cm i) && decide (cm i≤c) && decide (cm i≤u i) && decide (u i≤b)).length
theorem z6q {cm u:Nat→Nat} {n a m b:Nat} (ha:a≤m+1):zfi cm u n a m b+(zds cm u (m+1) n).countP (fun i=>decide (u i≤b))≤zfi cm u n a (m+1) b:=by
 unfold zfi zds;rw [List.countP_filter,← List.countP_eq_length_filter,← List.countP_eq_length_filter];generalize List.range n=l
 induction l with
 | nil=>simp
 | cons x l ih =>
  simp only [List.countP_cons]
  by_cases h1:cm x=m+1
  ·have e1:(decide (a≤cm x) && decide (cm x≤m) && decide (cm x≤u x) && decide (u x≤b))=false:=by
    have:decide (cm x≤m)=false:=decide_eq_false (by omega);rw [this];simp
   rw [e1];have e2:(decide (u x≤b) && (cm x == m+1 && decide (m+1≤u x)))=(decide (a≤cm x) && decide (cm x≤m+1) && decide (cm x≤u x) && decide (u x≤b)):=by
    rw [h1];have:decide (a≤m+1)=true:=decide_eq_true ha;rw [this];have h3:(m+1 == m+1)=true:=by simp
    rw [h3,decide_eq_true (Nat.le_refl (m+1))];cases decide (u x≤b)<;>cases decide (m+1≤u x)<;>rfl
   rw [e2];simp only [Bool.false_eq_true,if_false];omega
  ·have e1:(decide (u x≤b) && (cm x == m+1 && decide (m+1≤u x)))=false:=by
    have:(cm x == m+1)=false:=beq_false_of_ne h1;rw [this];simp
   rw [e1];have e2:(decide (a≤cm x) && decide (cm x≤m) && decide (cm x≤u x) && decide (u x≤b))=(decide (a≤cm x) && decide (cm x≤m+1) && decide (cm x≤u x) && decide (u x≤b)):=by
    have:decide (cm x≤m)=decide (cm x≤m+1):=by
     by_cases h:cm x≤m
     ·rw [decide_eq_true h,decide_eq_true (by omega)]
     ·rw [decide_eq_false h,decide_eq_false (by omega)]
    rw [this]
   rw [e2];simp only [Bool.false_eq_true,if_false];omega
theorem step_count {u:Nat→Nat} {t b:Nat} {s:SW}:(stepW u t s).ws.countP (fun i=>decide (u i≤b))=s.ws.countP (fun i=>decide (u i≤b)) - 1:=by
 unfold stepW
 by_cases h:s.ws=[]
 ·rw [if_pos h,h];rfl
 ·rw [if_neg h]
  obtain ⟨h1,h2⟩:=zji u s.ws h;show (s.ws.erase (zeq u s.ws)).countP _=_;have hp:=(List.perm_cons_erase h1).countP_eq fun i=>decide (u i≤b)
  rw [List.countP_cons] at hp
  by_cases hb:u (zeq u s.ws)≤b
  ·rw [if_pos (decide_eq_true hb)] at hp
   omega
  ·rw [if_neg (fun e=>hb (of_decide_eq_true e))] at hp
   have:s.ws.countP (fun i=>decide (u i≤b))=0:=by
    rw [List.countP_eq_zero];intro x hx e;have:=zae5 (h2 x hx);have:=of_decide_eq_true e;omega
   omega
theorem zrv {u:Nat→Nat} {t b:Nat} {s:SW}:∀ k,(zaw u t k s).ws.countP (fun i=>decide (u i≤b))=s.ws.countP (fun i=>decide (u i≤b)) - k
 | 0=>rfl
 | k+1=>by
  rw [zaw,step_count,zrv k];omega
theorem step_shut {u:Nat→Nat} {t:Nat} {s:SW}:(stepW u t s).shut=s.shut:=by
 unfold stepW
 split<;>rfl
theorem zim {u:Nat→Nat} {t:Nat} {s:SW}:∀ k,(zaw u t k s).shut=s.shut
 | 0=>rfl
 | k+1=>by rw [zaw,step_shut,zim k]
theorem zw3 {cm u:Nat→Nat} {n k M:Nat} (H:∀ a b,1≤a→a≤b→b≤M→zfi cm u n a b b≤k * (b+1 - a)):∀ m,m≤M →
  (toW cm u n k m).shut=0∧∀ b,m≤b→∃ s,s≤m∧(toW cm u n k m).ws.countP (fun i=>decide (u i≤b))+k * (m - s)≤zfi cm u n (s+1) m b
 | 0,_=>⟨rfl,fun b _=>⟨0,Nat.le_refl _,by simp [toW]⟩⟩
 | m+1,hm=>by
  obtain ⟨h1,h2⟩:=zw3 H m (by omega);have key:∀ b,m+1≤b→∃ s,s≤m+1∧(zaw u (m+1) k ⟨(toW cm u n k m).out,(toW cm u n k m).ws ++ zds cm u (m+1) n,(toW cm u n k m).shut⟩).ws.countP (fun i=>decide (u i≤b))+k * (m+1 - s)≤zfi cm u n (s+1) (m+1) b:=by
   intro b hb;obtain ⟨s,hs,h3⟩:=h2 b (by omega);rw [zrv,List.countP_append];have h4:=z6q (cm:=cm) (u:=u) (n:=n) (a:=s+1) (m:=m) (b:=b) (by omega)
   by_cases hk:(toW cm u n k m).ws.countP (fun i=>decide (u i≤b))+(zds cm u (m+1) n).countP (fun i=>decide (u i≤b))≤k
   ·exact ⟨m+1,Nat.le_refl _,by rw [Nat.sub_eq_zero_of_le hk,Nat.sub_self];simp⟩
   ·refine ⟨s,by omega,?_⟩
    have e:m+1 - s=(m - s)+1:=by omega
    rw [e,Nat.mul_add,Nat.mul_one];omega
  obtain ⟨X,hX⟩:∃ X,X=zaw u (m+1) k ⟨(toW cm u n k m).out,(toW cm u n k m).ws ++ zds cm u (m+1) n,(toW cm u n k m).shut⟩:=⟨_,rfl⟩
  rw [← hX] at key;have hXs:X.shut=0:=by rw [hX,zim];exact h1
  have e:toW cm u n k (m+1)=ztn u (m+1) X:=by rw [hX];rfl
  rw [e]
  constructor
  ·show X.shut+X.ws.countP (fun i=>u i == m+1)=0
   obtain ⟨s,hs,h3⟩:=key (m+1) (Nat.le_refl _);have h5:X.ws.countP (fun i=>u i == m+1)≤X.ws.countP (fun i=>decide (u i≤m+1)):=List.countP_mono_left fun i _ hi=>by
    rw [beq_iff_eq] at hi;exact decide_eq_true (by omega)
   by_cases hse:s=m+1
   ·subst hse
    have h6:zfi cm u n (m+1+1) (m+1) (m+1)=0:=by
     unfold zfi;rw [List.length_eq_zero_iff,List.filter_eq_nil_iff];intro i _ hi;simp only [Bool.and_eq_true,decide_eq_true_eq] at hi;omega
    omega
   ·have h6:=H (s+1) (m+1) (by omega) (by omega) hm
    have e:m+1+1 - (s+1)=m+1 - s:=by omega
    rw [e] at h6;omega
  ·intro b hb
   obtain ⟨s,hs,h3⟩:=key b hb;refine ⟨s,hs,Nat.le_trans (Nat.add_le_add_right ?_ _) h3⟩;show (X.ws.filter _).countP _≤_;exact (List.filter_sublist).countP_le
end Go.Proofs.YtnfdiohfojjnlaaGreat
namespace Go.Proofs.YtnfdiohfojjnlaaGreat
open Go.Lib (hid)
def zd4 (k w j:Nat):List (Nat × Nat):=(List.range j).map fun j=>(w,1+j * k)
def zat (N:Nat) (kf:Nat→Nat) (n:Nat):List (Nat × Nat):=(List.range n).flatMap fun w=>zd4 (kf w) w (N / kf w)
theorem zpr (N:Nat) (kf:Nat→Nat) (n:Nat):zat N kf (n+1)=zat N kf n ++ zd4 (kf n) n (N / kf n):=by
 unfold zat;rw [List.range_succ,List.flatMap_append,List.flatMap_singleton]
theorem z6r (k w j:Nat):zd4 k w (j+1)=zd4 k w j ++ [(w,1+j * k)]:=by
 unfold zd4;rw [List.range_succ,List.map_append];rfl
theorem zzr (k w j:Nat):(zd4 k w j).length=j:=by simp [zd4]
theorem zzs {k w j:Nat} {p:Nat × Nat} (h:p∈zd4 k w j):p.1=w∧∃ i,i < j∧p.2=1+i * k:=by
 obtain ⟨i,hi,rfl⟩:=List.mem_map.1 h;exact ⟨rfl,i,List.mem_range.1 hi,rfl⟩
theorem zg3 {N n:Nat} {kf:Nat→Nat} {p:Nat × Nat} (h:p∈zat N kf n):p.1 < n∧∃ i,i < N / kf p.1∧p.2=1+i * kf p.1:=by
 obtain ⟨w,hw,h⟩:=List.mem_flatMap.1 h;obtain ⟨rfl,h2⟩:=zzs h;exact ⟨List.mem_range.1 hw,h2⟩
theorem zjj {N n:Nat} {kf:Nat→Nat} (hk:∀ w,w < n→1≤kf w) {p:Nat × Nat} (h:p∈zat N kf n):1≤p.2∧p.2≤p.2+kf p.1 - 1∧p.2+kf p.1 - 1≤N:=by
 obtain ⟨h1,i,h2,h3⟩:=zg3 h;have h4:=hk _ h1;have h5:(i+1) * kf p.1≤N:=Nat.le_trans (Nat.mul_le_mul_right _ h2) (Nat.div_mul_le_self _ _);rw [Nat.add_mul,Nat.one_mul] at h5;omega
theorem z4t {k w j:Nat} (hk:1≤k):(zd4 k w j).Nodup:=by
 unfold zd4;refine List.Pairwise.map _ (fun a b hab e=>hab ?_) (List.nodup_range (n:=j));have h:1+a * k=1+b * k:=congrArg Prod.snd e;have h2:a * k=b * k:=by omega
 exact Nat.eq_of_mul_eq_mul_right hk h2
theorem zn8 {N:Nat} {kf:Nat→Nat}:∀ n,(∀ w,w < n→1≤kf w)→(zat N kf n).Nodup
 | 0,_=>List.Pairwise.nil
 | n+1,hk=>by
  rw [zpr];refine List.nodup_append.2 ⟨zn8 n fun w hw=>hk w (by omega),z4t (hk n (by omega)),fun a ha b hb e=>?_⟩;have h1:=(zg3 ha).1;have h2:=(zzs hb).1;rw [e,h2] at h1;omega
def zh9 (kf:Nat→Nat) (vis:Nat→Nat) (p:Nat × Nat) (a:Nat):Prop:=p.2≤a∧a≤p.2+kf p.1 - 1∧vis (a - 1)=p.1
theorem z29 {N n:Nat} {kf vis:Nat→Nat} (hk:∀ w,w < n→1≤kf w) {p q:Nat × Nat} {a:Nat} (hp:p∈zat N kf n) (hq:q∈zat N kf n) (h1:zh9 kf vis p a) (h2:zh9 kf vis q a):p=q:=by
 obtain ⟨w,f⟩:=p;obtain ⟨w',g⟩:=q;obtain ⟨a1,a2,a3⟩:=h1;obtain ⟨b1,b2,b3⟩:=h2;obtain ⟨hw,i,-,hi⟩:=zg3 hp;obtain ⟨-,j,-,hj⟩:=zg3 hq;simp only at a1 a2 a3 b1 b2 b3 hw hi hj;have e:w=w':=by rw [← a3,← b3]
 subst e;have hk1:=hk w hw;have d1:(a - 1) / kf w=i:=Nat.div_eq_of_lt_le (by omega) (by rw [Nat.add_mul,Nat.one_mul];omega);have d2:(a - 1) / kf w=j:=Nat.div_eq_of_lt_le (by omega) (by rw [Nat.add_mul,Nat.one_mul];omega);have e2:i=j:=d1.symm.trans d2;rw [hi,hj,e2]
def z4u (l:List (Nat × Nat)) (i:Nat):Nat:=(l.getD i (0,0)).2
def z4v (kf:Nat→Nat) (l:List (Nat × Nat)) (i:Nat):Nat:=(l.getD i (0,0)).2+kf (l.getD i (0,0)).1 - 1
theorem getD_in {l:List (Nat × Nat)} {i:Nat} (h:i < l.length):l.getD i (0,0)∈l:=by
 rw [List.getD_eq_getElem?_getD,List.getElem?_eq_getElem h];exact List.getElem_mem h
theorem getD_inj {l:List (Nat × Nat)} (hn:l.Nodup) {i j:Nat} (hi:i < l.length) (hj:j < l.length) (e:l.getD i (0,0)=l.getD j (0,0)):i=j:=by
 rw [List.getD_eq_getElem?_getD,List.getD_eq_getElem?_getD,List.getElem?_eq_getElem hi,List.getElem?_eq_getElem hj] at e;exact (List.getElem_inj hn).1 e
theorem zfj {α:Type} [DecidableEq α]:∀ (l m:List α),l.Nodup→(∀ x∈l,x∈m)→l.length≤m.length
 | [],m,_,_=>by simp
 | x :: l,m,hn,hs=>by
  rw [List.nodup_cons] at hn;have h1:=hs x (by simp);have h2:=zfj l (m.erase x) hn.2 fun y hy=>(List.mem_erase_of_ne (fun e=>by subst e;exact hn.1 hy)).2 (hs y (by simp [hy]))
  rw [List.length_erase_of_mem h1] at h2;have:0 < m.length:=List.length_pos_of_mem h1;simp;omega
theorem z6s {l:List Nat} (hn:l.Nodup) {f:Nat→Nat} {a b:Nat} (hf:∀ i∈l,a≤f i∧f i≤b) (hi:∀ i∈l,∀ j∈l,f i=f j→i=j):l.length≤b+1 - a:=by
 have h1:(l.map f).Nodup:=by
  rw [List.nodup_iff_pairwise_ne,List.pairwise_map];exact (List.Pairwise.imp_of_mem (fun {x y} hx hy hne e=>hne (hi x hx y hy e)) (List.nodup_iff_pairwise_ne.1 hn))
 have:=zfj (l.map f) (List.range' a (b+1 - a)) h1 fun x hx=>by
  obtain ⟨i,hi,rfl⟩:=List.mem_map.1 hx;have:=hf i hi;rw [List.mem_range'_1];omega
 rw [List.length_map,List.length_range'] at this;exact this
theorem z83 {N n:Nat} {kf vis:Nat→Nat} (hk:∀ w,w < n→1≤kf w) (hv:∀ p∈zat N kf n,∃ a,zh9 kf vis p a) (a b:Nat) :
  zfi (z4u (zat N kf n)) (z4v kf (zat N kf n)) (zat N kf n).length a b b≤1 * (b+1 - a):=by
 obtain ⟨f,hf⟩:∃ f:Nat→Nat,∀ i,i < (zat N kf n).length→zh9 kf vis ((zat N kf n).getD i (0,0)) (f i):=by
  refine ⟨fun i=>if h:i < (zat N kf n).length then Classical.choose (hv _ (getD_in h)) else 0,fun i hi=>?_⟩;show zh9 kf vis _ (if h:i < (zat N kf n).length then Classical.choose (hv _ (getD_in h)) else 0);rw [dif_pos hi];exact Classical.choose_spec (hv _ (getD_in hi))
 rw [Nat.one_mul];unfold zfi;refine z6s (f:=f) (List.nodup_range.filter _) (fun i hi=>?_) fun i hi j hj e=>?_
 ·rw [List.mem_filter,List.mem_range] at hi
  obtain ⟨h1,h2⟩:=hi;have h2:a≤((zat N kf n).getD i (0,0)).2∧((zat N kf n).getD i (0,0)).2+kf ((zat N kf n).getD i (0,0)).1 - 1≤b:=by
   simp only [Bool.and_eq_true] at h2;exact ⟨of_decide_eq_true h2.1.1.1,of_decide_eq_true h2.2⟩
  obtain ⟨g1,g2,-⟩:=hf i h1;omega
 ·have hi:=List.mem_range.1 (List.mem_filter.1 hi).1
  have hj:=List.mem_range.1 (List.mem_filter.1 hj).1;have h2:=hf j hj;rw [← e] at h2;exact getD_inj (zn8 n hk) hi hj (z29 hk (getD_in hi) (getD_in hj) (hf i hi) h2)
end Go.Proofs.YtnfdiohfojjnlaaGreat
namespace Go.Proofs.YtnfdiohfojjnlaaGreat
open Go.Lib (hid)
open Go.RowKit Go.Shelf
structure Psn where
 lo:Nat
 hi:Nat
 u:Nat
def zqx (p:Psn):List Value:=[.int .i64 p.lo,.int .i64 p.hi,.int .i64 p.u]
def zf6 (W:World) (v:Value) (ps:List Psn):Prop:=IsRows W 3 v (ps.map zqx)
theorem zf6.ext {W W':World} (e:Ext W W') {v:Value} {ps:List Psn} (h:zf6 W v ps):zf6 W' v ps:=IsRows.ext e h
theorem zf6.spec {W:World} {v:Value} {ps:List Psn} (h:zf6 W v ps):∃ sa cap,v = .slice sa ps.length cap∧ps.length≤cap∧cap≤9223372036854775807∧(ps=[]∨∃ b off,sa=some ⟨b,off,none⟩∧∀ i,(h:i < ps.length) →
   W.cell? ⟨b,off+i * 3,none⟩=some (.int .i64 ps[i].lo)∧W.cell? ⟨b,off+i * 3+1,none⟩=some (.int .i64 ps[i].hi)∧W.cell? ⟨b,off+i * 3+2,none⟩=some (.int .i64 ps[i].u)):=by
 obtain ⟨sa,cap,h1,h2,h3,h4⟩:=h;refine ⟨sa,cap,by simpa using h1,by simpa using h2,h3,?_⟩
 rcases h4 with h4 | ⟨b,off,e,h4⟩
 ·exact .inl (by simpa using h4)
 ·refine .inr ⟨b,off,e,fun i hi=>?_⟩
  have c0:=h4 i (by simpa using hi) 0 (by simp [zqx]);have c1:=h4 i (by simpa using hi) 1 (by simp [zqx]);have c2:=h4 i (by simpa using hi) 2 (by simp [zqx]);simp [zqx] at c0 c1 c2;exact ⟨c0,c1,c2⟩
def unP (ps:List Psn) (i:Nat):Nat:=(ps.map (·.u)).getD i 0
theorem zadm {ps:List Psn} {i:Nat} (h:i < ps.length):unP ps i=ps[i].u:=by
 unfold unP;rw [List.getD_eq_getElem?_getD,List.getElem?_map,List.getElem?_eq_getElem h];rfl
def slK (u:Nat→Nat) (i:Nat):Value:=.agg #[.int .i64 (u i:Int),.int .i64 (i:Int)]
def sl1 (_:Nat):Value:=.int .i64 1
theorem z6t (a b c d:Int) (w:World):(Op.equalIn 10000 149 (.agg #[.int .i64 a,.int .i64 b]) (.agg #[.int .i64 c,.int .i64 d])).run Tryz.prog w = .ok (a == c && b == d) w:=by
 rw [run_equalIn_struct w 9999 149 _ _ (by kernel_rfl) (by kernel_rfl)]
 have hf : (Tryz.prog.fieldsOf 149).toList = [⟨"until", 2, 0, false, "", "quinella/crowd", 0⟩, ⟨"person", 3, 1, false, "", "quinella/crowd", 8⟩] := by kernel_rfl
 rw [hf]
 by_cases e1:a=c<;>by_cases e2:b=d<;>simp [go_sem,e1,e2]
theorem z84 (u:Nat→Nat) (a b:Nat) (w:World):(Op.equal 149 (slK u a) (slK u b)).run Tryz.prog w = .ok (decide (a=b)) w:=by
 have h:(Op.equal 149 (slK u a) (slK u b)).run Tryz.prog w = .ok ((u a:Int) == (u b:Int) && (a:Int) == (b:Int)) w:=by
  simp only [Op.equal,Op.maxDepth,slK];exact z6t _ _ _ _ w
 rw [h];have e:((u a:Int) == (u b:Int) && (a:Int) == (b:Int))=decide (a=b):=by
  by_cases e:a=b
  ·subst e;simp
  ·have:((a:Int) == (b:Int))=false:=beq_false_of_ne fun h=>e (by omega)
   rw [this,Bool.and_false,decide_eq_false e]
 rw [e]
theorem z85 (b:Bool) (u:Nat→Nat) (k:Nat) (w:World) (n:Nat):(Instr.checkKey b (n+2) 149 (slK u k)).run Tryz.prog w = .ok () w:=by
 have h3:∀ x w,(Instr.checkKey b (n+1) 3 (.int .i64 x)).run Tryz.prog w = .ok () w:=fun x w=>by
  rw [Instr.checkKey];simp [go_sem]
 have h4:∀ x w,(Instr.checkKey b (n+1) 2 (.int .i64 x)).run Tryz.prog w = .ok () w:=fun x w=>by
  rw [Instr.checkKey];simp [go_sem]
 rw [Instr.checkKey];simp only [slK,Sem.run_bind,Tryz.runUnderlying149,Result.andThen_ok];simp [go_sem,h3,h4]
theorem zabw (u:Nat→Nat) (k:Nat) (l:zae Nat Nat) (w:World):(Instr.findKey 149 (slK u k) (l.map (zar (slK u) sl1))).run Tryz.prog w = .ok (zbd sl1 k l 0) w:=by
 have h:∀ (l:zae Nat Nat) (i:Nat),(Instr.findAsking 149 (slK u k) (l.map (zar (slK u) sl1)) i).run Tryz.prog w = .ok (zbd sl1 k l i) w:=by
  intro l
  induction l with
  | nil=>intro i;rfl
  | cons e l ih =>
   intro i;simp only [List.map_cons,Instr.findAsking,zbd,zar,Sem.run_bind,z84,Result.andThen_ok]
   by_cases hk:e.1=k
   ·subst hk;simp
   ·have:¬ k=e.1:=fun h=>hk h.symm
    simp only [hk,this,decide_false,Bool.false_eq_true,if_false];exact ih (i+1)
 cases l with
 | nil=>simp [Instr.findKey,go_sem,Instr.findNow,zbd]
 | cons e l =>
  have:=h (e :: l) 0;simp only [Instr.findKey,Sem.run_bind,Tryz.runUnderlying149,Result.andThen_ok,List.map_cons,Instr.findNow,zar,slK,Instr.sameNow] at this ⊢;exact this
theorem zd5 (u:Nat→Nat):Keyed Tryz.prog 147 149 3 (slK u) sl1 where
 und:=by kernel_rfl
 chk:=fun b k w=>z85 b u k w 9998
 find:=zabw u
 stay:=fun k=>by
  have:∀ n:Nat,Instr.sameBits (n+2) (slK u k) (slK u k)=true:=fun n=>by simp [Instr.sameBits,slK]
  exact this 9998
def IsW (u:Nat→Nat) (W:World) (mb:Nat) (ws:List Nat):Prop:=∃ (es:zae Nat Nat) (c:Nat),IsMap (slK u) sl1 W mb es c∧zcd es c∧es.map (·.1)=ws∧ws.Nodup∧∀ e∈es,e.2.1=u e.1
theorem IsW.lt {u:Nat→Nat} {W:World} {mb:Nat} {ws:List Nat} (h:IsW u W mb ws):mb < W.heap.size:=by
 obtain ⟨_,_,h,-⟩:=h;exact (Array.getElem?_eq_some_iff.1 h).1
theorem IsW.of_heap {u:Nat→Nat} {W W':World} {mb:Nat} {ws:List Nat} (h:IsW u W mb ws) (e:W'.heap[mb]? = W.heap[mb]?):IsW u W' mb ws:=by
 obtain ⟨es,c,h1,h2⟩:=h;exact ⟨es,c,e.trans h1,h2⟩
theorem IsW.ext {u:Nat→Nat} {W W':World} {mb:Nat} {ws:List Nat} (h:IsW u W mb ws) (e:Ext W W'):IsW u W' mb ws:=h.of_heap (e.block mb h.lt)
theorem IsW.kept {S:Nat→Prop} {u:Nat→Nat} {W W':World} {mb:Nat} {ws:List Nat} (h:IsW u W mb ws) (k:Kept S W W') (hs:S mb):IsW u W' mb ws:=h.of_heap (k.same mb h.lt hs)
theorem IsW.nil {u:Nat→Nat} {W:World} {mb:Nat} (h:W.heap[mb]? = some (.map #[] 0)):IsW u W mb []:=⟨[],0,h,⟨List.Pairwise.nil,fun _ h=>by cases h⟩,rfl,List.Pairwise.nil,fun _ h=>by cases h⟩
theorem IsW.add {u:Nat→Nat} {W:World} {mb:Nat} {ws:List Nat} (h:IsW u W mb ws) {k:Nat} (hk:k ∉ ws) :
  ∃ W',(Instr.mapUpdate 147 (.map (some mb)) (slK u k) (.int .i64 1)).run Tryz.prog W = .ok () W'∧W.grownBy W' (some mb)∧W'.heap.size=W.heap.size∧IsW u W' mb (ws ++ [k]):=by
 have hl:=h.lt;obtain ⟨es,c,h1,h2,h3,h4,h5⟩:=h;have hf:es.findIdx? (fun e=>decide (e.1=k))=none:=by
  rw [List.findIdx?_eq_none_iff];intro e he;refine decide_eq_false fun e2=>hk ?_
  rw [← h3,← e2];exact List.mem_map_of_mem he
 have hu:zkp k (u k) c es=es ++ [(k,u k,c)]:=by unfold zkp;rw [hf]
 have hb:=h2.upd k (u k);rw [hu] at hb;refine ⟨_,ztm (zd5 u) h1 k (u k),⟨rfl,rfl,rfl,by simp,fun j hj hne=>World.putObj_heap_other (fun e=>hne (by rw [e]))⟩,by simp,_,_,World.putObj_heap_same hl,by rw [hu];exact hb,?_,?_,fun e he=>?_⟩
 ·rw [hu,List.map_append,h3];rfl
 ·exact List.nodup_append.2 ⟨h4,by simp,fun a ha b hb e=>hk (by rw [List.mem_singleton.1 hb] at e;rw [← e];exact ha)⟩
 ·rw [hu] at he
  rcases List.mem_append.1 he with he | he
  ·exact h5 e he
  ·rw [List.mem_singleton.1 he]
theorem erase_filter {l:List Nat} (h:l.Nodup) (k:Nat):l.erase k=l.filter fun x=>decide (x≠k):=by
 rw [List.Nodup.erase_eq_filter h];refine List.filter_congr fun x _=>?_
 by_cases e:x=k<;>simp [e]
theorem IsW.del {u:Nat→Nat} {W:World} {mb:Nat} {ws:List Nat} (h:IsW u W mb ws) (k:Nat) (ty:TypeId) :
  ∃ W',(Builtin.delete_ #[147,149] ty #[.map (some mb),slK u k]).run Tryz.prog W = .ok (.tuple #[]) W'∧W.grownBy W' (some mb)∧W'.heap.size=W.heap.size∧IsW u W' mb (ws.erase k):=by
 obtain ⟨es,c,h1,h2,h3,h4,h5⟩:=h;obtain ⟨W',g1,g2,g3,g4,g5,g6⟩:=MapIs.del (zd5 u) h1 (by unfold zcg;rw [h3];exact h4) h2 k ty;refine ⟨W',g1,g2,g3,_,_,g4,g6,?_,h4.erase k,fun e he=>h5 e (List.mem_filter.1 he).1⟩;rw [erase_filter h4,← h3,List.filter_map];rfl
end Go.Proofs.YtnfdiohfojjnlaaGreat
namespace Go.Proofs.YtnfdiohfojjnlaaGreat
open Go.Lib (hid)
open Go.RowKit
theorem zzt (l:List Int) (sa:Option Addr) (cap:Nat) (f:Nat) (cs:Array Value) (p:Int→Bool) (w:World)
  (hl:l.length≤9223372036854775807)
  (hs:l=[]∨∃ b off,sa=some ⟨b,off,none⟩∧∀ i,(h:i < l.length)→w.cell? ⟨b,off+i,none⟩=some (.int .i64 l[i]))
  (hcall:∀ args W,(callFunc f args).run Tryz.prog W = .ok (.enter f args) W)
  (hf:∀ x,x∈l→∀ W,Ext w W→Calls Tryz.prog f (#[.int .i64 x] ++ cs) W fun e W'=>e = .returned (.bool (p x))∧Ext W W') :
  Calls Tryz.prog 124 #[.slice sa l.length cap,.func (.func f) #[] cs] w fun e w'=>e = .returned (.int .i64 (znx p l))∧Ext w w':=by
 have Hf:=hid hf;clear hf
 go_enter Tryz.func124,Tryz.ntmps124
 go_wp2
 go_loopw [8] (fun i W=>∃ k:Nat,k≤l.length∧i = .int .i64 k∧(∀ x∈l.take k,p x=false)∧Ext w W) (fun i _=>l.length - (intOf i).toNat)
 case atStart=>exact ⟨0,Nat.zero_le _,rfl,by simp,Below.refl _ _⟩
 case round =>
  obtain ⟨k,hk,rfl,hno,hb⟩:=hrel;have HN:=hid hno;clear hno
  by_cases hlt:k < l.length
  ·have hs':∃ b off,sa=some ⟨b,off,none⟩∧∀ i,(h:i < l.length)→w.cell? ⟨b,off+i,none⟩=some (.int .i64 l[i]):=by
    rcases hs with rfl | h
    ·simp at hlt
    ·exact h
   clear hs;obtain ⟨b,off,rfl,hc⟩:=hs';have hc1:=hc k hlt;have HC:Hid (∀ i,(h:i < l.length)→w.cell? ⟨b,off+i,none⟩=some (.int .i64 l[i])):=hid hc;clear hc;have hcell:=zj hb hc1;clear hc1;go_wp2_with fail;refine (Hf.out l[k] (List.getElem_mem hlt) _ hb).mono ?_
   rintro e W' ⟨rfl,hb'⟩;cases hp:p l[k]
   ·go_wp2
    go_roundw
    case rel=>exact ⟨k+1,by omega,by go_num,zjc hlt HN.out hp,hb.trans' hb'⟩
    case measure=>simp [intOf];omega
   ·go_wp2
    go_ret;exact ⟨zay (zvl hlt HN.out hp).symm,hb.trans' hb'⟩
  ·go_wp2
   go_ret;exact ⟨zay (zpm (zjd hlt HN.out)).symm,hb⟩
theorem zto (l:List Int) (sa:Option Addr) (cap:Nat) (f:Nat) (cs:Array Value) (p:Int→Bool) (w:World)
  (hl:l.length≤9223372036854775807)
  (hs:l=[]∨∃ b off,sa=some ⟨b,off,none⟩∧∀ i,(h:i < l.length)→w.cell? ⟨b,off+i,none⟩=some (.int .i64 l[i]))
  (hcall:∀ args W,(callFunc f args).run Tryz.prog W = .ok (.enter f args) W)
  (hf:∀ x,x∈l→∀ W,Ext w W→Calls Tryz.prog f (#[.int .i64 x] ++ cs) W fun e W'=>e = .returned (.bool (p x))∧Ext W W') :
  Calls Tryz.prog 70 #[.slice sa l.length cap,.func (.func f) #[] cs] w fun e w'=>e = .returned (.bool (l.any p))∧Ext w w':=by
 have H:=hid (zzt l sa cap f cs p w hl hs hcall hf);clear hf hs hcall
 go_enter Tryz.func70,Tryz.ntmps70
 go_wp2_with fail;refine H.out.mono ?_
 rintro e W' ⟨rfl,hb⟩
 go_wp2
 all_goals
  go_ret;refine ⟨zd2 ?_,hb⟩;rw [← zsl]
theorem zzu (l:List Psn) (sa:Option Addr) (cap:Nat) (f:Nat) (cs:Array Value) (p:Psn→Bool) (w:World)
  (hl:l.length≤9223372036854775807)
  (hs:l=[]∨∃ b off,sa=some ⟨b,off,none⟩∧∀ i,(h:i < l.length)→w.cell? ⟨b,off+i * 3,none⟩=some (.int .i64 ((l[i]).lo:Nat))∧w.cell? ⟨b,off+i * 3+1,none⟩=some (.int .i64 ((l[i]).hi:Nat))∧w.cell? ⟨b,off+i * 3+2,none⟩=some (.int .i64 ((l[i]).u:Nat)))
  (hcall:∀ args W,(callFunc f args).run Tryz.prog W = .ok (.enter f args) W)
  (hf:∀ x,x∈l→∀ W,Ext w W→Calls Tryz.prog f (#[.agg #[.int .i64 ((x).lo:Nat),.int .i64 ((x).hi:Nat),.int .i64 ((x).u:Nat)]] ++ cs) W fun e W'=>e = .returned (.bool (p x))∧Ext W W') :
  Calls Tryz.prog 181 #[.slice sa l.length cap,.func (.func f) #[] cs] w fun e w'=>e = .returned (.int .i64 (znx p l))∧Ext w w':=by
 have Hf:=hid hf;clear hf
 go_enter Tryz.func181,Tryz.ntmps181
 go_wp2
 go_loopw [8] (fun i W=>∃ k:Nat,k≤l.length∧i = .int .i64 k∧(∀ x∈l.take k,p x=false)∧Ext w W) (fun i _=>l.length - (intOf i).toNat)
 case atStart=>exact ⟨0,Nat.zero_le _,rfl,by simp,Below.refl _ _⟩
 case round =>
  obtain ⟨k,hk,rfl,hno,hb⟩:=hrel;have HN:=hid hno;clear hno
  by_cases hlt:k < l.length
  ·have hs':∃ b off,sa=some ⟨b,off,none⟩∧∀ i,(h:i < l.length)→w.cell? ⟨b,off+i * 3,none⟩=some (.int .i64 ((l[i]).lo:Nat))∧w.cell? ⟨b,off+i * 3+1,none⟩=some (.int .i64 ((l[i]).hi:Nat))∧w.cell? ⟨b,off+i * 3+2,none⟩=some (.int .i64 ((l[i]).u:Nat)):=by
    rcases hs with rfl | h
    ·simp at hlt
    ·exact h
   clear hs;obtain ⟨b,off,rfl,hc⟩:=hs';have hc1:=hc k hlt;have HC:Hid (∀ i,(h:i < l.length)→w.cell? ⟨b,off+i * 3,none⟩=some (.int .i64 ((l[i]).lo:Nat))∧w.cell? ⟨b,off+i * 3+1,none⟩=some (.int .i64 ((l[i]).hi:Nat))∧w.cell? ⟨b,off+i * 3+2,none⟩=some (.int .i64 ((l[i]).u:Nat))):=hid hc;clear hc;obtain ⟨a0,a1,a2⟩:=hc1;have c0:=zj hb a0;have c1:=zj hb a1;have c2:=zj hb a2;clear a0 a1 a2;go_wp2_with fail;refine (Hf.out l[k] (List.getElem_mem hlt) _ hb).mono ?_
   rintro e W' ⟨rfl,hb'⟩;cases hp:p l[k]
   ·go_wp2
    go_roundw
    case rel=>exact ⟨k+1,by omega,by go_num,zjc hlt HN.out hp,hb.trans' hb'⟩
    case measure=>simp [intOf];omega
   ·go_wp2
    go_ret;exact ⟨zay (zvl hlt HN.out hp).symm,hb.trans' hb'⟩
  ·go_wp2
   go_ret;exact ⟨zay (zpm (zjd hlt HN.out)).symm,hb⟩
theorem ztp (l:List Psn) (sa:Option Addr) (cap:Nat) (f:Nat) (cs:Array Value) (p:Psn→Bool) (w:World)
  (hl:l.length≤9223372036854775807)
  (hs:l=[]∨∃ b off,sa=some ⟨b,off,none⟩∧∀ i,(h:i < l.length)→w.cell? ⟨b,off+i * 3,none⟩=some (.int .i64 ((l[i]).lo:Nat))∧w.cell? ⟨b,off+i * 3+1,none⟩=some (.int .i64 ((l[i]).hi:Nat))∧w.cell? ⟨b,off+i * 3+2,none⟩=some (.int .i64 ((l[i]).u:Nat)))
  (hcall:∀ args W,(callFunc f args).run Tryz.prog W = .ok (.enter f args) W)
  (hf:∀ x,x∈l→∀ W,Ext w W→Calls Tryz.prog f (#[.agg #[.int .i64 ((x).lo:Nat),.int .i64 ((x).hi:Nat),.int .i64 ((x).u:Nat)]] ++ cs) W fun e W'=>e = .returned (.bool (p x))∧Ext W W') :
  Calls Tryz.prog 116 #[.slice sa l.length cap,.func (.func f) #[] cs] w fun e w'=>e = .returned (.bool (l.any p))∧Ext w w':=by
 have H:=hid (zzu l sa cap f cs p w hl hs hcall hf);clear hf hs hcall
 go_enter Tryz.func116,Tryz.ntmps116
 go_wp2_with fail;refine H.out.mono ?_
 rintro e W' ⟨rfl,hb⟩
 go_wp2
 all_goals
  go_ret;refine ⟨zd2 ?_,hb⟩;rw [← zsl]
end Go.Proofs.YtnfdiohfojjnlaaGreat
namespace Go.Proofs.YtnfdiohfojjnlaaGreat
open Go.Lib (hid)
open Go.RowKit Go.Shelf
attribute [local go_sem] Oper.semAt_some
theorem zrw (x:Int) (w:World):Calls Tryz.prog 134 #[.int .i64 x] w fun e w'=>e = .returned (.bool false)∧Ext w w':=by
 go_enter Tryz.func134,Tryz.ntmps134
 go_wp2_with fail;go_ret;exact ⟨rfl,Below.refl _ _⟩
theorem ztq (x:Int) (w:World):Calls Tryz.prog 135 #[.int .i64 x] w fun e w'=>e = .returned (.bool false)∧Ext w w':=by
 go_enter Tryz.func135,Tryz.ntmps135
 go_wp2_with fail;go_ret;exact ⟨rfl,Below.refl _ _⟩
def zer (a b:Int):Int:=if a < b then -1 else if b < a then 1 else 0
theorem zye (a b:Int) (w:World):Calls Tryz.prog 88 #[.int .i64 a,.int .i64 b] w fun e w'=>e = .returned (.int .i64 (zer a b))∧Ext w w':=by
 obtain ⟨r,hr⟩:∃ r,r=zer a b:=⟨_,rfl⟩
 rw [← hr];unfold zer at hr;have HR:=hid hr;clear hr
 go_enter Tryz.func88,Tryz.ntmps88
 go_wp2_with fail;refine (zrw a w).mono ?_
 rintro e w1 ⟨rfl,h1⟩;have H1:=hid h1;clear h1;go_wp2_with fail;refine (zrw b w1).mono ?_
 rintro e w2 ⟨rfl,h2⟩;have H2:=hid h2;clear h2
 by_cases c1:a < b
 ·obtain rfl:r = -1:=by rw [HR.out,if_pos c1]
  go_wp2_with fail;go_ret;exact ⟨rfl,H1.out.trans' H2.out⟩
 ·by_cases c2:b < a
  ·obtain rfl:r=1:=by rw [HR.out,if_neg c1,if_pos c2]
   go_wp2_with fail;go_ret;exact ⟨rfl,H1.out.trans' H2.out⟩
  ·obtain rfl:r=0:=by rw [HR.out,if_neg c1,if_neg c2]
   go_wp2_with fail;go_ret;exact ⟨rfl,H1.out.trans' H2.out⟩
theorem zzv (a b:Int) (w:World):Calls Tryz.prog 89 #[.int .i64 a,.int .i64 b] w fun e w'=>e = .returned (.int .i64 (zer a b))∧Ext w w':=by
 obtain ⟨r,hr⟩:∃ r,r=zer a b:=⟨_,rfl⟩
 rw [← hr];unfold zer at hr;have HR:=hid hr;clear hr
 go_enter Tryz.func89,Tryz.ntmps89
 go_wp2_with fail;refine (ztq a w).mono ?_
 rintro e w1 ⟨rfl,h1⟩;have H1:=hid h1;clear h1;go_wp2_with fail;refine (ztq b w1).mono ?_
 rintro e w2 ⟨rfl,h2⟩;have H2:=hid h2;clear h2
 by_cases c1:a < b
 ·obtain rfl:r = -1:=by rw [HR.out,if_pos c1]
  go_wp2_with fail;go_ret;exact ⟨rfl,H1.out.trans' H2.out⟩
 ·by_cases c2:b < a
  ·obtain rfl:r=1:=by rw [HR.out,if_neg c1,if_pos c2]
   go_wp2_with fail;go_ret;exact ⟨rfl,H1.out.trans' H2.out⟩
  ·obtain rfl:r=0:=by rw [HR.out,if_neg c1,if_neg c2]
   go_wp2_with fail;go_ret;exact ⟨rfl,H1.out.trans' H2.out⟩
theorem zadn (a b:Int) (q:Nat) (w:World) (c0:w.cell? ⟨q,0,none⟩=some (.int .i64 a)) (c1:w.cell? ⟨q,1,none⟩=some (.int .i64 b)) :
  Calls Tryz.prog 87 #[.slice (some ⟨q,0,none⟩) 2 2] w fun e w'=>e = .returned (.int .i64 (if a=0 then b else a))∧Ext w w':=by
 obtain ⟨r,hr⟩:∃ r,r=if a=0 then b else a:=⟨_,rfl⟩
 rw [← hr];have HR:=hid hr;clear hr
 go_enter Tryz.func87,Tryz.ntmps87
 go_wp2_with fail
 go_loopw [8] (fun iv W=>∃ i:Nat,i≤2∧iv = .int .i64 i∧Ext w W∧(1≤i→a=0)∧(2≤i→b=0)) (fun iv _=>2 - (intOf iv).toNat)
 case atStart=>exact ⟨0,by omega,rfl,Below.refl _ _,fun h=>by omega,fun h=>by omega⟩
 case round =>
  obtain ⟨i,hi,rfl,hE,h1,h2⟩:=hrel;have k0:=zj hE c0;have k1:=zj hE c1;have HE:=hid hE;clear hE
  match i,hi with
  | 0,_ =>
   by_cases ha:a=0
   ·have e1:(a != 0)=false:=by simp [ha]
    go_wp2_with fail;go_roundw
    case rel=>exact ⟨1,by omega,by go_num,HE.out,fun _=>ha,fun h=>by omega⟩
    case measure=>simp [intOf]
   ·have e1:(a != 0)=true:=by simp [ha]
    go_wp2_with fail;go_ret;exact ⟨by rw [HR.out,if_neg ha];rfl,HE.out⟩
  | 1,_ =>
   have ha:=h1 (by omega)
   by_cases hb:b=0
   ·have e1:(b != 0)=false:=by simp [hb]
    go_wp2_with fail;go_roundw
    case rel=>exact ⟨2,by omega,by go_num,HE.out,fun _=>ha,fun _=>hb⟩
    case measure=>simp [intOf]
   ·have e1:(b != 0)=true:=by simp [hb]
    go_wp2_with fail;go_ret;exact ⟨by rw [HR.out,if_pos ha];rfl,HE.out⟩
  | 2,_ =>
   have ha:=h1 (by omega);have hb:=h2 (by omega);go_wp2_with fail;go_ret;exact ⟨by rw [HR.out,if_pos ha,hb];rfl,HE.out⟩
def zzw (x y:Int) (W:World) (v:Value):Prop:=∃ q,v = .slice (some ⟨q,0,none⟩) 2 2∧W.cell? ⟨q,0,none⟩=some (.int .i64 x)∧W.cell? ⟨q,1,none⟩=some (.int .i64 y)
theorem zzw.ext {x y:Int} {W W':World} {v:Value} (h:zzw x y W v) (e:Ext W W'):zzw x y W' v:=by
 obtain ⟨q,h1,h2,h3⟩:=h;exact ⟨q,h1,zj e h2,zj e h3⟩
theorem z2i (u:Nat→Nat) (a b:Nat) (w:World):Calls Tryz.prog 86 #[slK u a,slK u b] w fun e w'=>∃ r:Int,e = .returned (.int .i64 r)∧Ext w w'∧decide (r < 0) = !leW u b a:=by
 obtain ⟨r,hr⟩:∃ r,r=if zer (u a) (u b)=0 then zer a b else zer (u a) (u b):=⟨_,rfl⟩
 have hd:decide (r < 0) = !leW u b a:=by
  rw [hr];unfold zer leW;rw [Bool.eq_iff_iff];simp only [decide_eq_true_eq,Bool.not_eq_true',Bool.or_eq_false_iff,Bool.and_eq_false_iff,decide_eq_false_iff_not,beq_eq_false_iff_ne]
  split<;>split<;>(try split)<;>(try split)<;>omega
 have HD:=hid hd;have HR:=hid hr;clear hd hr;unfold slK
 go_enter Tryz.func86,Tryz.ntmps86
 go_upto_region 1 with (fail);obtain ⟨Y,hY⟩:∃ Y,Y=(w.alloc (.cells #[.int .i64 (u a:Int),.int .i64 (a:Int)] 149)).alloc (.cells #[.int .i64 (u b:Int),.int .i64 (b:Int)] 149):=⟨_,rfl⟩
 have hE:Ext w Y:=by rw [hY];exact xx
 have a0:Y.cell? ⟨w.heap.size,0,none⟩=some (.int .i64 (u a:Int)):=by rw [hY];simp [go_sem]
 have a1:Y.cell? ⟨w.heap.size,1,none⟩=some (.int .i64 (a:Int)):=by rw [hY];simp [go_sem]
 have b0:Y.cell? ⟨w.heap.size+1,0,none⟩=some (.int .i64 (u b:Int)):=by rw [hY];simp [go_sem]
 have b1:Y.cell? ⟨w.heap.size+1,1,none⟩=some (.int .i64 (b:Int)):=by rw [hY];simp [go_sem]
 have za:=World.block_lt_of_cell? _ _ a0;have zb:=World.block_lt_of_cell? _ _ b0;simp only at za zb;rw [← hY];have HE:=hid hE;clear hY hE;refine zb9 (Y.heap.size) (Nat.le_refl _)
  [sqV (.pointer (some ⟨w.heap.size,0,none⟩)),sqV (.int .i64 (u a:Int)),sqV (.pointer (some ⟨w.heap.size+1,0,none⟩)),sqV (.int .i64 (u b:Int)),sqV (.int .i64 (zer (u a) (u b))),sqV (.pointer (some ⟨w.heap.size,1,none⟩)),sqV (.int .i64 (a:Int)),sqV (.pointer (some ⟨w.heap.size+1,1,none⟩)),sqV (.int .i64 (b:Int)),sqV (.int .i64 (zer a b)),sqW (fun v W=>zzw (zer (u a) (u b)) (zer a b) W v) (fun _ _ _ h e=>zzw.ext h e),sqW (fun v W=>v=Value.int .i64 r) (fun _ _ _ h _=>h),sqW (fun v W=>v=Value.int .i64 r) (fun _ _ _ h _=>h)]
  [true,true,true,true,true,true,true,true,true,true,false,false,false] [false,false,false,false,false,false,false,false,false,false,false,false,false] [true,true,true,true,true,true,true,true,true,true,true,true,true] [true,true,true,true,true,true,true,true,true,true,true,true,true]
  (by kernel_rfl) (by kernel_rfl) (by decide +kernel) (by decide +kernel) (by decide +kernel) rfl ⟨rfl,rfl⟩ ⟨?s0,?s1,?s2,?s3,?s4,?s5,?s6,?s7,?s8,?s9,?s10,?s11,?s12,trivial⟩ [some 5,some 6,some 7,some 8,some 9,some 10,some 11,some 12,some 13,some 14,some 15,some 16,some 4] rfl rfl ?send
 case s0 =>
  intro val ρ W hE hz hd hA hx;have o0:ρ (.tmp 2) = .pointer (some ⟨w.heap.size,0,none⟩):=hA.old 2 (by decide);clear hd;exact zh (W':=W) (by simp [execOp,o0,go_sem]) (Below.refl _ _) rfl
 case s1 =>
  intro val ρ W hE hz hd hA hx;have d0:ρ (.tmp 5) = .pointer (some ⟨w.heap.size,0,none⟩):=(hA.dep 0 (by decide) 5 rfl).trans (hd 0 (by decide));have f_a0:=cell_below hE (by simp only;omega) a0;clear hd;exact zh (W':=W) (by simp [execOp,d0,f_a0,go_sem]) (Below.refl _ _) rfl
 case s2 =>
  intro val ρ W hE hz hd hA hx;have o0:ρ (.tmp 3) = .pointer (some ⟨w.heap.size+1,0,none⟩):=hA.old 3 (by decide);clear hd;exact zh (W':=W) (by simp [execOp,o0,go_sem]) (Below.refl _ _) rfl
 case s3 =>
  intro val ρ W hE hz hd hA hx;have d2:ρ (.tmp 7) = .pointer (some ⟨w.heap.size+1,0,none⟩):=(hA.dep 2 (by decide) 7 rfl).trans (hd 2 (by decide));have f_b0:=cell_below hE (by simp only;omega) b0;clear hd;exact zh (W':=W) (by simp [execOp,d2,f_b0,go_sem]) (Below.refl _ _) rfl
 case s4 =>
  intro val ρ W hE hz hd hA hx;have d1:ρ (.tmp 6) = .int .i64 (u a:Int):=(hA.dep 1 (by decide) 6 rfl).trans (hd 1 (by decide));have d3:ρ (.tmp 8) = .int .i64 (u b:Int):=(hA.dep 3 (by decide) 8 rfl).trans (hd 3 (by decide));clear hd;refine zct 88 _ _ rfl #[.int .i64 (u a:Int),.int .i64 (u b:Int)] (hA.func _) (by simp [d1,d3]) (fun args W=>Tryz.call88 args W) ((zye _ _ W).mono ?_);rintro e w' ⟨rfl,hb⟩;exact ⟨_,rfl,hb,rfl⟩
 case s5 =>
  intro val ρ W hE hz hd hA hx;have o0:ρ (.tmp 2) = .pointer (some ⟨w.heap.size,0,none⟩):=hA.old 2 (by decide);clear hd;exact zh (W':=W) (by simp [execOp,o0,go_sem]) (Below.refl _ _) rfl
 case s6 =>
  intro val ρ W hE hz hd hA hx;have d5:ρ (.tmp 10) = .pointer (some ⟨w.heap.size,1,none⟩):=(hA.dep 5 (by decide) 10 rfl).trans (hd 5 (by decide));have f_a1:=cell_below hE (by simp only;omega) a1;clear hd;exact zh (W':=W) (by simp [execOp,d5,f_a1,go_sem]) (Below.refl _ _) rfl
 case s7 =>
  intro val ρ W hE hz hd hA hx;have o0:ρ (.tmp 3) = .pointer (some ⟨w.heap.size+1,0,none⟩):=hA.old 3 (by decide);clear hd;exact zh (W':=W) (by simp [execOp,o0,go_sem]) (Below.refl _ _) rfl
 case s8 =>
  intro val ρ W hE hz hd hA hx;have d7:ρ (.tmp 12) = .pointer (some ⟨w.heap.size+1,1,none⟩):=(hA.dep 7 (by decide) 12 rfl).trans (hd 7 (by decide));have f_b1:=cell_below hE (by simp only;omega) b1;clear hd;exact zh (W':=W) (by simp [execOp,d7,f_b1,go_sem]) (Below.refl _ _) rfl
 case s9 =>
  intro val ρ W hE hz hd hA hx;have d6:ρ (.tmp 11) = .int .i64 (a:Int):=(hA.dep 6 (by decide) 11 rfl).trans (hd 6 (by decide));have d8:ρ (.tmp 13) = .int .i64 (b:Int):=(hA.dep 8 (by decide) 13 rfl).trans (hd 8 (by decide));clear hd;refine zct 89 _ _ rfl #[.int .i64 (a:Int),.int .i64 (b:Int)] (hA.func _) (by simp [d6,d8]) (fun args W=>Tryz.call89 args W) ((zzv _ _ W).mono ?_);rintro e w' ⟨rfl,hb⟩;exact ⟨_,rfl,hb,rfl⟩
 case s10 =>
  intro val ρ W hE hz hd hA hx;have d4:ρ (.tmp 9) = .int .i64 (zer (u a) (u b)):=(hA.dep 4 (by decide) 9 rfl).trans (hd 4 (by decide));have d9:ρ (.tmp 14) = .int .i64 (zer a b):=(hA.dep 9 (by decide) 14 rfl).trans (hd 9 (by decide));refine zh (W':=W.alloc (.cells #[.int .i64 (zer (u a) (u b)),.int .i64 (zer a b)] 3)) (by simp [execOp,d4,d9,go_sem]) (by exact xx) ⟨W.heap.size,rfl,by simp [go_sem],by simp [go_sem]⟩
 case s11 =>
  intro val ρ W hE hz hd hA hx;obtain ⟨q,h1,c0,c1⟩:=hd 10 (by decide);have d10:ρ (.tmp 15) = .slice (some ⟨q,0,none⟩) 2 2:=(hA.dep 10 (by decide) 15 rfl).trans h1;refine zct 87 _ _ rfl #[.slice (some ⟨q,0,none⟩) 2 2] (hA.func _) (by simp [d10]) (fun args W=>Tryz.call87 args W) ((zadn _ _ q W c0 c1).mono ?_);rintro e w' ⟨rfl,hb⟩;exact ⟨_,rfl,hb,show Value.int .i64 _=Value.int .i64 r by rw [HR.out]⟩
 case s12 =>
  intro val ρ W hE hz hd hA hx;have d11:ρ (.tmp 16) = .int .i64 r:=(hA.dep 11 (by decide) 16 rfl).trans (hd 11 (by decide));exact zh (W':=W) (by simp [execOp,d11,go_sem]) (Below.refl _ _) rfl
 case send =>
  intro val W1 hE1 hzz hv;obtain ⟨-,-,-,-,-,-,-,-,-,-,-,r11,r12,-⟩:=hv;have q11:val 11 = .int .i64 r:=r11;have q12:val 12 = .int .i64 r:=r12;simp only [zbx,q12];go_frame;go_wp2_with fail;go_ret;exact ⟨r,rfl,HE.out.trans' hE1,HD.out⟩
end Go.Proofs.YtnfdiohfojjnlaaGreat
namespace Go.Proofs.YtnfdiohfojjnlaaGreat
open Go.Lib (hid)
open Go.RowKit Go.Shelf
attribute [local go_sem] Oper.semAt_some
def zdp (u:Nat→Nat) (i:Nat):List Value:=[.int .i64 (u i:Int),.int .i64 (i:Int)]
theorem z6u {u:Nat→Nat} {W:World} {v:Value} {l:List Nat} (h:IsRows W 2 v (l.map (zdp u))):∃ sa cap,v = .slice sa l.length cap∧l.length≤cap∧cap≤9223372036854775807∧(l=[]∨∃ b off,sa=some ⟨b,off,none⟩∧∀ i,(h:i < l.length) →
   W.cell? ⟨b,off+i * 2,none⟩=some (.int .i64 (u l[i]:Int))∧W.cell? ⟨b,off+i * 2+1,none⟩=some (.int .i64 (l[i]:Int))):=by
 obtain ⟨sa,cap,h1,h2,h3,h4⟩:=h;refine ⟨sa,cap,by simpa using h1,by simpa using h2,h3,?_⟩
 rcases h4 with h4 | ⟨b,off,e,h4⟩
 ·exact .inl (by simpa using h4)
 ·refine .inr ⟨b,off,e,fun i hi=>?_⟩
  have c0:=h4 i (by simpa using hi) 0 (by simp [zdp]);have c1:=h4 i (by simpa using hi) 1 (by simp [zdp]);simp [zdp] at c0 c1;exact ⟨c0,c1⟩
def zc4 (u:Nat→Nat) (W:World) (b:Nat) (i:Nat):Prop:=W.heap[b]? = some (.cells #[.int .i64 (u i:Int),.int .i64 (i:Int)] 149 (0,0))
section
variable {u:Nat→Nat} {W W':World} {b i:Nat}
theorem zc4.c0 (h:zc4 u W b i):W.cell? ⟨b,0,none⟩=some (.int .i64 (u i:Int)):=by rw [cell_of_row _ _ _ _ _ _ h];rfl
theorem zc4.c1 (h:zc4 u W b i):W.cell? ⟨b,1,none⟩=some (.int .i64 (i:Int)):=by rw [cell_of_row _ _ _ _ _ _ h];rfl
theorem zc4.lt (h:zc4 u W b i):b < W.heap.size:=World.block_lt_of_cell? _ _ h.c0
theorem zc4.fr (h:zc4 u W b i) (o:Nat):W.frozen? ⟨b,o,none⟩=false:=by
 have h':W.heap[b]? = _:=h;simp [World.frozen?,h']
theorem zc4.ext (h:zc4 u W b i) (e:Ext W W'):zc4 u W' b i:=(e.block b h.lt).trans h
theorem zc4.kept {S:Nat→Prop} (h:zc4 u W b i) (k:Kept S W W') (hs:S b):zc4 u W' b i:=(k.same b h.lt hs).trans h
theorem zc4.set (h:zc4 u W b i) (j:Nat):zc4 u ((W.setCell ⟨b,0,none⟩ (.int .i64 (u j:Int))).setCell ⟨b,1,none⟩ (.int .i64 (j:Int))) b j :=
 zp (zp h 0 _) 1 _
theorem zc4.new (u:Nat→Nat) (W:World) (i:Nat):zc4 u (W.alloc (.cells #[.int .i64 (u i:Int),.int .i64 (i:Int)] 149)) W.heap.size i:=World.alloc_heap_new W _
end
theorem z2j (u:Nat→Nat) (l:List Nat) (v:Value) (w:World) (hne:l≠[]) (h:IsRows w 2 v (l.map (zdp u))) :
  Calls Tryz.prog 131 #[v,.func (.func 86) #[] #[]] w fun e w'=>e = .returned (slK u (zeq u l))∧Ext w w':=by
 obtain ⟨sa,cap,rfl,h1,h2,hc⟩:=z6u h
 rcases hc with hc | ⟨b,off,rfl,hc⟩
 ·exact absurd hc hne
 have hl0:0 < l.length:=List.length_pos_iff.2 hne;have hl0i:¬ ((l.length:Int) < 1):=by omega
 have HC:=hid hc;obtain ⟨c0,c1⟩:=hc 0 hl0;rw [Nat.zero_mul,Nat.add_zero] at c0 c1;have hb:=World.block_lt_of_cell? _ _ c0;simp only at hb;obtain ⟨x0,hx0⟩:∃ x0,x0=l[0]:=⟨_,rfl⟩
 rw [← hx0] at c0 c1;have HX0:=hid hx0;clear hc h hx0
 go_enter Tryz.func131,Tryz.ntmps131
 go_wp2_with fail;obtain ⟨W1,hW1⟩:∃ W1,W1=(w.alloc (.cells #[.int .i64 0,.int .i64 0] 149)).alloc (.cells #[.int .i64 (u x0:Int),.int .i64 (x0:Int)] 149):=⟨_,rfl⟩
 have hE:Ext w W1:=by rw [hW1];exact xx
 have hz:W1.heap.size=w.heap.size+2:=by rw [hW1];simp
 have hR:W1.heap[w.heap.size]? = some (.cells #[.int .i64 0,.int .i64 0] 149 (0,0)):=by
  rw [hW1];exact (Below.heap_alloc _ _ _ (by simp)).trans (World.alloc_heap_new w _)
 have hM:zc4 u W1 (w.heap.size+1) x0:=by
  rw [hW1];have:=zc4.new u (w.alloc (.cells #[.int .i64 0,.int .i64 0] 149)) x0
  rwa [World.size_alloc] at this
 rw [← hW1];have HE:=hid hE;have HR:=hid hR;have HM:=hid hM;clear hW1 hE hR hM c0 c1;gi_wp2_with fail
 go_loopw [6] (fun iv W=>∃ (i m:Nat),1≤i∧i≤l.length∧iv = .int .i64 i∧Kept (fun k=>k≠w.heap.size+1) W1 W∧zc4 u W (w.heap.size+1) m∧m∈l.take i∧∀ x∈l.take i,leW u m x=true) (fun iv _=>l.length - (intOf iv).toNat)
 case atStart =>
  have e1:l.take 1=[x0]:=by
   match l,hl0,HX0.out with
   | y :: l',_,e=>rw [e];rfl
  exact ⟨1,x0,by omega,hl0,rfl,Kept.refl _ _,HM.out,by rw [e1];simp,fun x hx=>by rw [e1,List.mem_singleton] at hx;rw [hx];exact zn7 u x0⟩
 case round =>
  obtain ⟨i,m,hi1,hi,rfl,hK,hm,hmem,hall⟩:=hrel;obtain ⟨Y,rfl⟩:∃ Y,Y=wr:=⟨_,rfl⟩
  have m0:=hm.c0;have m1:=hm.c1;have mz:=hm.lt;have mf:=hm.fr;have hzY:=hK.size;have HK:=hid hK;have HMm:=hid hm;have HMEM:=hid hmem;have HALL:=hid hall;clear hm hmem hall
  by_cases hlt:i < l.length
  ·have hii:(i:Int) < (l.length:Int):=by omega
   have hle2:¬ l.length≤i:=by omega
   obtain ⟨g0,g1⟩:=HC.out i hlt;obtain ⟨y,hy⟩:∃ y,y=l[i]:=⟨_,rfl⟩
   rw [← hy] at g0 g1;have HY:=hid hy;replace g0:=hK.cell (zj HE.out g0) (by simp only;omega);replace g1:=hK.cell (zj HE.out g1) (by simp only;omega);have hbz:=World.block_lt_of_cell? _ _ g0;simp only at hbz;clear hy hK;go_upto_region 7 with (fail);refine zb9 (Y.heap.size) (Nat.le_refl _)
    [sqV (.func (.func 86) #[] #[]),sqV (.slice (some ⟨b,off,none⟩) l.length cap),sqV (.int .i64 i),sqV (.pointer (some ⟨b,off+i * 2,none⟩)),sqV (.agg #[.int .i64 (u y:Int),.int .i64 (y:Int)]),sqV (.agg #[.int .i64 (u m:Int),.int .i64 (m:Int)]),sqW (fun v W=>∃ r:Int,v=Value.int .i64 r∧decide (r < 0) = !leW u m y) (fun _ _ _ h _=>h),sqW (fun v W=>v=Value.bool (!leW u m y)) (fun _ _ _ h _=>h)]
    [true,true,true,true,true,true,false,false] [false,false,false,false,false,false,false,false] [true,true,true,true,true,true,true,true] [true,true,true,true,true,true,true,true]
    (by kernel_rfl) (by kernel_rfl) (by decide +kernel) (by decide +kernel) (by decide +kernel) rfl ⟨rfl,rfl⟩ ⟨?s0,?s1,?s2,?s3,?s4,?s5,?s6,?s7,trivial⟩ [some 20,some 21,some 22,some 23,some 24,some 25,some 26,some 27] rfl rfl ?send
   case s0 =>
    intro val ρ W hE hz hd hA hx;have o0:ρ (.tmp 1) = .func (.func 86) #[] #[]:=hA.old 1 (by decide);clear hd;exact zh (W':=W) (by simp [execOp,o0,go_sem]) (Below.refl _ _) rfl
   case s1 =>
    intro val ρ W hE hz hd hA hx;have o0:ρ (.tmp 0) = .slice (some ⟨b,off,none⟩) l.length cap:=hA.old 0 (by decide);clear hd;exact zh (W':=W) (by simp [execOp,o0,go_sem]) (Below.refl _ _) rfl
   case s2 =>
    intro val ρ W hE hz hd hA hx;have o0:ρ (.tmp 6) = .int .i64 i:=hA.old 6 (by decide);clear hd;exact zh (W':=W) (by simp [execOp,o0,go_sem]) (Below.refl _ _) rfl
   case s3 =>
    intro val ρ W hE hz hd hA hx;have d1:ρ (.tmp 21) = .slice (some ⟨b,off,none⟩) l.length cap:=(hA.dep 1 (by decide) 21 rfl).trans (hd 1 (by decide));have d2:ρ (.tmp 22) = .int .i64 i:=(hA.dep 2 (by decide) 22 rfl).trans (hd 2 (by decide));clear hd;exact zh (W':=W) (by simp [execOp,d1,d2,hlt,go_sem]) (Below.refl _ _) rfl
   case s4 =>
    intro val ρ W hE hz hd hA hx;have d3:ρ (.tmp 23) = .pointer (some ⟨b,off+i * 2,none⟩):=(hA.dep 3 (by decide) 23 rfl).trans (hd 3 (by decide));have f_g0:=cell_below hE (by simp only;omega) g0;have f_g1:=cell_below hE (by simp only;omega) g1;clear hd;exact zh (W':=W) (by simp [execOp,d3,f_g0,f_g1,go_sem]) (Below.refl _ _) rfl
   case s5 =>
    intro val ρ W hE hz hd hA hx;have o0:ρ (.tmp 5) = .pointer (some ⟨w.heap.size+1,0,none⟩):=hA.old 5 (by decide);have f_m0:=cell_below hE (by simp only;omega) m0;have f_m1:=cell_below hE (by simp only;omega) m1;clear hd;exact zh (W':=W) (by simp [execOp,o0,f_m0,f_m1,go_sem]) (Below.refl _ _) rfl
   case s6 =>
    intro val ρ W hE hz hd hA hx;have d0:ρ (.tmp 20) = .func (.func 86) #[] #[]:=(hA.dep 0 (by decide) 20 rfl).trans (hd 0 (by decide));have d4:ρ (.tmp 24) = .agg #[.int .i64 (u y:Int),.int .i64 (y:Int)]:=(hA.dep 4 (by decide) 24 rfl).trans (hd 4 (by decide));have d5:ρ (.tmp 25) = .agg #[.int .i64 (u m:Int),.int .i64 (m:Int)]:=(hA.dep 5 (by decide) 25 rfl).trans (hd 5 (by decide));refine z81 86 _ _ _ #[] #[] rfl #[.agg #[.int .i64 (u y:Int),.int .i64 (y:Int)],.agg #[.int .i64 (u m:Int),.int .i64 (m:Int)]] d0 (by simp [d4,d5]) (fun args W=>Tryz.call86 args W) ((z2i u y m W).mono ?_);rintro e w' ⟨r,rfl,hb,hr⟩;exact ⟨_,rfl,hb,r,rfl,hr⟩
   case s7 =>
    intro val ρ W hE hz hd hA hx;obtain ⟨r,h6,hr⟩:=hd 6 (by decide);have d6:ρ (.tmp 26) = .int .i64 r:=(hA.dep 6 (by decide) 26 rfl).trans h6;exact zh (W':=W) (by simp [execOp,d6,hA.const,go_sem]) (Below.refl _ _) (show Value.bool (decide (r < 0))=_ by rw [hr])
   case send =>
    intro val W2 hE2 hzz hv;obtain ⟨-,-,-,-,-,-,-,r7,-⟩:=hv;have r7:val 7 = .bool (!leW u m y):=r7;have HK2:=hid (HK.out.trans ((Kept.of_below hE2).mono fun _ _ _=>trivial));have HMn:=hid (HMm.out.ext hE2);have ht:l.take (i+1)=l.take i ++ [y]:=by
     rw [List.take_add_one,List.getElem?_eq_getElem hlt,← HY.out];rfl
    have HTK:=hid ht;cases hle:leW u m y
    ·have q7:val 7 = .bool true:=by rw [r7,hle];rfl
     have n0:=HMn.out.c0;have n1:=HMn.out.c1;have nz:=HMn.out.lt;have nf:=HMn.out.fr;replace g0:=zj hE2 g0;replace g1:=zj hE2 g1;have hbz2:=World.block_lt_of_cell? _ _ g0;simp only at hbz2;have HLE:=hid hle;simp only [zbx,q7];go_frame;clear hE2 hzz r7 m0 m1 mz mf hle ht HK HMm;go_wp2_with fail;go_roundw
     case rel =>
      refine ⟨i+1,y,by omega,by omega,by go_num,?_,HMn.out.set y,by rw [HTK.out];simp,fun x hx=>?_⟩
      ·exact (HK2.out.setCell (fun _ h=>h rfl) _).setCell (fun _ h=>h rfl) _
      ·rw [HTK.out] at hx
       rcases List.mem_append.1 hx with hx | hx
       ·exact zw1 (zw2 (by rw [HLE.out];simp)) (HALL.out x hx)
       ·rw [List.mem_singleton.1 hx];exact zn7 u y
     case measure=>simp [intOf];omega
    ·have q7:val 7 = .bool false:=by rw [r7,hle];rfl
     have HLE:=hid hle;simp only [zbx,q7];go_frame;clear hE2 hzz r7 m0 m1 mz mf hle ht HK HMm;go_wp2_with fail;go_roundw
     case rel =>
      refine ⟨i+1,m,by omega,by omega,by go_num,HK2.out,HMn.out,by rw [HTK.out];exact List.mem_append_left _ HMEM.out,fun x hx=>?_⟩;rw [HTK.out] at hx
      rcases List.mem_append.1 hx with hx | hx
      ·exact HALL.out x hx
      ·rw [List.mem_singleton.1 hx];exact HLE.out
     case measure=>simp [intOf];omega
  ·have hii:¬ ((i:Int) < (l.length:Int)):=by omega
   have hil:i=l.length:=by omega
   have hmi:m=zeq u l:=by
    have h1:=HMEM.out;have h2:=HALL.out;rw [hil,List.take_length] at h1 h2;exact z28 h1 h2
   have hr:=hK.same w.heap.size (by omega) (by omega);rw [HR.out] at hr;have r0:Y.cell? ⟨w.heap.size,0,none⟩=some (.int .i64 0):=by rw [cell_of_row _ _ _ _ _ _ hr];rfl
   have r1:Y.cell? ⟨w.heap.size,1,none⟩=some (.int .i64 0):=by rw [cell_of_row _ _ _ _ _ _ hr];rfl
   have rz:=World.block_lt_of_cell? _ _ r0;simp only at rz;have rf:∀ o,Y.frozen? ⟨w.heap.size,o,none⟩=false:=fun o=>by simp [World.frozen?,hr]
   have HMI:=hid hmi;clear hmi hr hK hil;go_wp2_with fail;refine bodyPost_ret (v:=slK u m) (by simp [slK,results,Tryz.results131,go_sem,r0,r1]) rfl ?_
   refine ⟨by rw [HMI.out],HE.out.trans (Kept.below (B:=w.heap.size) (((HK.out.mono fun k _ h=>?_).setCell (fun _ h=>?_) _).setCell (fun _ h=>?_) _) (by omega))⟩
   ·have:k < w.heap.size:=h
    omega
   ·have:w.heap.size < w.heap.size:=h
    omega
   ·have:w.heap.size < w.heap.size:=h
    omega
theorem z4w (u:Nat→Nat) (l:List Nat) (v:Value) (w:World) (hne:l≠[]) (h:IsRows w 2 v (l.map (zdp u))) :
  Calls Tryz.prog 83 #[v,.func (.func 86) #[] #[]] w fun e w'=>e = .returned (slK u (zeq u l))∧Ext w w':=by
 have H:=hid h;clear h
 go_enter Tryz.func83,Tryz.ntmps83
 go_wp2_with fail;obtain ⟨W1,hW1⟩:∃ W1,W1=w.alloc (.cells #[.int .i64 0,.int .i64 0] 149):=⟨_,rfl⟩
 have hE:Ext w W1:=by rw [hW1];exact xx
 have hR:W1.heap[w.heap.size]? = some (.cells #[.int .i64 0,.int .i64 0] 149 (0,0)):=by
  rw [hW1];exact World.alloc_heap_new w _
 rw [← hW1];have HE:=hid hE;have HR:=hid hR;clear hW1 hE hR;refine (z2j u l v W1 hne (IsRows.ext HE.out H.out)).mono ?_
 rintro e W2 ⟨rfl,hE2⟩;have hr:=(hE2.block w.heap.size (Array.getElem?_eq_some_iff.1 HR.out).1).trans HR.out;have r0:W2.cell? ⟨w.heap.size,0,none⟩=some (.int .i64 0):=by rw [cell_of_row _ _ _ _ _ _ hr];rfl
 have r1:W2.cell? ⟨w.heap.size,1,none⟩=some (.int .i64 0):=by rw [cell_of_row _ _ _ _ _ _ hr];rfl
 have rz:=World.block_lt_of_cell? _ _ r0;simp only at rz;have rf:∀ o,W2.frozen? ⟨w.heap.size,o,none⟩=false:=fun o=>by simp [World.frozen?,hr]
 have HE2:=hid hE2;clear hr hE2;unfold slK;go_wp2_with fail;refine bodyPost_ret (v:=slK u (zeq u l)) (by simp [slK,results,Tryz.results83,go_sem,r0,r1]) rfl ?_
 refine ⟨rfl,HE.out.trans (Kept.below (B:=w.heap.size) ((((Kept.of_below HE2.out).mono fun k _ h=>trivial).setCell (fun _ h=>?_) _).setCell (fun _ h=>?_) _) (by have:=HE.out.size;omega))⟩
 ·have:w.heap.size < w.heap.size:=h
  omega
 ·have:w.heap.size < w.heap.size:=h
  omega
end Go.Proofs.YtnfdiohfojjnlaaGreat
namespace Go.Proofs.YtnfdiohfojjnlaaGreat
open Go.Lib (hid)
open Go.RowKit Go.Shelf
attribute [local go_sem] Oper.semAt_some
theorem z6v (u:Nat→Nat) (mb bt:Nat) (es:zae Nat Nat) (c:Nat) (R:Nat→Prop) (w0:World) (hR:∀ k,R k→k < w0.heap.size) (_:R mb)
  (hM:∀ W,Kept R w0 W→W.cell? ⟨bt,0,none⟩=some (.map (some mb))∧IsMap (slK u) sl1 W mb es c) (hb:zcd es c) (ho:(es.map (·.1)).Nodup) :
  Iter Tryz.prog 133 #[.pointer (some ⟨bt,0,none⟩)] (fun i:Nat=>#[slK u i]) R (fun xs=>xs.Nodup∧∀ x,x∈xs↔x∈es.map (·.1)) (fun _=>True) (fun pre _=>pre.length < es.length) w0:=by
 intro n0 l J Jx W hW hJ hJx hY h0;have hk0:Kept R w0 W:=(Kept.of_below hW).mono fun k hk _=>trivial
 have HMM:=hid hM;have HK0:=hid hk0;have HR0:=hid hR;have HB:=hid hb;have HO:=hid ho;obtain ⟨ct,hm⟩:=hM W hk0;have hzt:=World.block_lt_of_cell? _ _ ct;simp only at hzt;have HJ:=hid hJ;have HJX:=hid hJx;have HY:=hid hY;have HH0:=hid h0;have hs0:=hW.size;have hrg:=zhx (zd5 u) hm;have hzm:mb < W.heap.size:=(Array.getElem?_eq_some_iff.1 hm).1;refine callsIn_of_wp Tryz.func133 rfl trivial ?_ rfl;simp only [Tryz.ntmps133,List.size_toArray,List.length_cons,List.length_nil,Nat.reduceAdd,Nat.reduceSub,Array.replicate_succ,Array.replicate_zero,List.push_toArray,List.append_toArray,List.nil_append,List.cons_append];clear hJ hJx hY h0 hW hM hk0 hR hb ho;gi_wp2_with fail;clear hrg;obtain ⟨W1,hW1⟩:∃ W1,W1=W.alloc (.mapIter (some mb) c #[] c):=⟨_,rfl⟩
 have hE1:Ext W W1:=by rw [hW1];exact xx
 obtain ⟨it,hit⟩:∃ it,it=W.heap.size:=⟨_,rfl⟩
 have hI1:W1.heap[it]? = some (.mapIter (some mb) c #[] c):=by rw [hW1,hit];exact World.alloc_heap_new _ _
 rw [← hW1];rw [← hit];have hz1:W1.heap.size=it+1:=by rw [hW1,hit];simp
 have hw0:w0.heap.size≤it:=by omega
 have HJ1:=hid (HJ.out [] (fun _=>False) (fun k=>k=it) W W1 HH0.out ((Kept.of_below hE1).mono fun k _ _=>trivial) (fun _ h=>h.elim) (fun k hk=>.inr ⟨by rw [hk,hit];exact Nat.le_refl _,by rw [hk,hz1];omega⟩));have HK1:=hid ((Kept.of_below hE1).mono (T:=R) fun k _ _=>trivial:Kept R W W1);have HI1:=hid hI1;have hmi:mb≠it:=by omega
 clear hW1 hE1 hI1 ct hm hit
 gi_loopw [] (fun wr=>∃ (seen:Array Nat) (xs:List Nat) (O:Nat→Prop),J O xs wr∧(∀ k,O k→it≤k)∧O it∧Kept R W wr∧it < wr.heap.size∧wr.heap[it]? = some (.mapIter (some mb) c seen c)∧xs.Nodup∧(∀ x∈xs,x∈es.map (·.1))∧∀ e∈es,(e.2.2∈seen↔e.1∈xs)) (fun wr=>zck es it wr)
 case atStart=>exact ⟨#[],[],_,HJ1.out,fun k hk=>by rw [hk];exact Nat.le_refl _,rfl,HK1.out,by omega,HI1.out,List.Pairwise.nil,(fun _ h=>(by cases h)),fun e _=>⟨fun h=>(by simp at h),fun h=>(by cases h)⟩⟩
 case round =>
  obtain ⟨seen,xs,O,hj,hO,hOi,hK,hzi,hi,hnd,hsub,hseen⟩:=hrel;obtain ⟨Z,rfl⟩:∃ Z,Z=wr:=⟨_,rfl⟩
  obtain ⟨kt,km⟩:=HMM.out Z (HK0.out.trans hK);have HJr:=hid hj;have HKr:=hid hK;have HOr:=hid hO;have HSUB:=hid hsub;have HSEEN:=hid hseen;have HND:=hid hnd
  rcases zjg (P:=Tryz.prog) km hi (fun e he=>HB.out.2 e he) with ⟨hall,hrun⟩ | ⟨e,he,hs,W2,hheap,hos,htape,hout,hrun⟩
  ·have HALL:=hid hall
   clear hj hO hK hi hnd hsub hseen hall kt km;gi_wp2_with fail
   go_end0
   refine ⟨⟨_,rfl⟩,.inl ⟨O,xs,⟨HND.out,fun x=>?_⟩,HJr.out⟩⟩;have h1:=HSUB.out x
   constructor
   ·intro hx
    simpa using h1 hx
   ·intro hx
    have hx:x∈es.map (·.1):=by simpa using hx
    obtain ⟨e,he,rfl⟩:=List.mem_map.1 hx;exact (HSEEN.out e he).1 (HALL.out e he)
  ·have hit2:W2.heap[it]? = some (.mapIter (some mb) c (seen.push e.2.2) c):=by rw [hheap];exact World.putObj_heap_same hzi
   have hk2:Kept (fun k=>k≠it) Z W2:=(Kept.refl _ Z).grown (row:=some it) ⟨hos,htape,hout,by rw [hheap];simp,fun k hk hne=>by rw [hheap];exact World.putObj_heap_other (fun e=>hne (by rw [e]))⟩ (fun k e _ hk=>by cases e;exact hk rfl);have hm2:IsMap (slK u) sl1 W2 mb es c:=(hk2.same _ (Array.getElem?_eq_some_iff.1 km).1 hmi).trans km;have hen:=zhy (P:=Tryz.prog) hm2 hit2 he HB.out.1;have hzW2:W2.heap.size=Z.heap.size:=by rw [hheap];simp
   have hun:=zjh he hs;have hun2:∀ W',W'.heap[it]? = W2.heap[it]?→zck es it W' < zck es it Z:=fun W' hW'=>by
    unfold zck;rw [hW',hit2,hi];exact hun
   have HUN:=hid hun2;have hnx:e.1 ∉ xs:=fun hx=>hs ((hseen e he).2 hx)
   have hxk:e.1∈es.map (·.1):=List.mem_map_of_mem he;have hnd1:(xs ++ [e.1]).Nodup:=List.nodup_append.2 ⟨hnd,by simp,fun a ha b hb' h=>hnx (by rw [List.mem_singleton.1 hb'] at h;rw [← h];exact ha)⟩;have hsub1:∀ x∈xs ++ [e.1],x∈es.map (·.1):=fun x hx=>by
    rcases List.mem_append.1 hx with hx | hx
    ·exact hsub x hx
    ·rw [List.mem_singleton.1 hx];exact hxk
   have hlen:xs.length < es.length:=by
    have:=zfj (xs ++ [e.1]) (es.map (·.1)) hnd1 hsub1;simp at this;omega
   have hseen1:∀ a∈es,(a.2.2∈seen.push e.2.2↔a.1∈xs ++ [e.1]):=fun a ha=>by
    rw [Array.mem_push,List.mem_append,List.mem_singleton,hseen a ha]
    constructor
    ·rintro (h | h)
     ·exact .inl h
     ·exact .inr (by rw [zb6 _ es HB.out.1 a ha e he h])
    ·rintro (h | h)
     ·exact .inl h
     ·exact .inr (by rw [zb6 _ es HO.out a ha e he h])
   obtain ⟨x,hx⟩:∃ x,x=e.1:=⟨_,rfl⟩
   rw [← hx] at hrun hen hnd1 hsub1 hseen1;have HND1:=hid hnd1;have HSUB1:=hid hsub1;have HSEEN1:=hid hseen1;have HIT2:=hid hit2;have HLEN:=hid hlen;have HJ2:Hid (J O xs W2):=hid (HJ.out xs O O Z W2 HJr.out (hk2.mono fun k _ h=>fun e=>h.1 (by rw [e];exact hOi)) (fun _ h=>h) (fun _ h=>.inl h));have HK2:Hid (Kept R W W2):=hid (hK.trans (hk2.mono fun k _ h=>by have:=HR0.out k h;omega));clear hj hO hK hi hnd hsub hseen kt km he hs hnd1 hsub1 hseen1 hnx hxk hlen hun hun2 hm2 hit2 hx hheap hos htape hout hk2 HJr HKr HND HSUB HSEEN;simp only [slK,sl1] at hrun hen;gi_wp2_with fail;obtain ⟨W3,hW3⟩:∃ W3,W3=W2.alloc (.cells #[.int .i64 (u x:Int),.int .i64 (x:Int)] 149):=⟨_,rfl⟩
   have hE3:Ext W2 W3:=by rw [hW3];exact xx
   have hz3:W3.heap.size=W2.heap.size+1:=by rw [hW3];simp
   rw [← hW3];have HJ3:Hid (J (fun k=>O k∨k=W2.heap.size) xs W3):=hid (HJ.out xs O _ W2 W3 HJ2.out ((Kept.of_below hE3).mono fun k _ _=>trivial) (fun _ h=>.inl h) (fun k hk=>hk.imp id fun h=>⟨by omega,by omega⟩));have HK3:Hid (Kept R W W3):=hid (HK2.out.trans ((Kept.of_below hE3).mono fun k _ _=>trivial));have hi3:Hid (W3.heap[it]? = some (.mapIter (some mb) c (seen.push e.2.2) c)):=hid ((hE3.block it (by omega)).trans HIT2.out);have c30:W3.cell? ⟨W2.heap.size,0,none⟩=some (.int .i64 (u x:Int)):=by rw [hW3];simp [go_sem]
   have c31:W3.cell? ⟨W2.heap.size,1,none⟩=some (.int .i64 (x:Int)):=by rw [hW3];simp [go_sem]
   have hy:=HY.out (fun k=>O k∨k=W2.heap.size) xs x W3 HJ3.out HLEN.out;clear hW3 hE3 hrun hen;obtain ⟨fn,tmps,assign,body,hy,hR2⟩:=hy;have hy:(Instr.yield l #[.agg #[.int .i64 (u x:Int),.int .i64 (x:Int)]]).run Tryz.prog W3 = .ok (.round l fn tmps assign body) W3:=hy;rw [hy];gi_wp2_with fail;refine ⟨fun h=>(by simp [Fence.wide] at h),hR2.mono ?_⟩;clear hy hR2;rintro e' WX (⟨rfl,hj6,hk6⟩ | ⟨rfl,hj6⟩)
   ·have hi6:WX.heap[it]? = some (.mapIter (some mb) c (seen.push e.2.2) c):=(hk6.same it (by omega) (.inr (.inl hOi))).trans hi3.out
    have HJ6:=hid hj6;have HK6:=hid hk6;have hz6:=hk6.size;have HI6:=hid hi6;clear hj6 hk6 hi6;gi_wp2_with fail;exact ⟨⟨_,xs ++ [x],_,HJ6.out,fun k hk=>hk.elim (HOr.out k) (fun h=>by omega),.inl hOi,HK3.out.trans (HK6.out.mono fun k _ h=>.inl h),by omega,HI6.out,HND1.out,HSUB1.out,HSEEN1.out⟩,HUN.out WX (HI6.out.trans HIT2.out.symm)⟩
   ·have HJ6:=hid hj6
    clear hj6;gi_wp2_with fail;refine bodyPost_ret (results_none rfl _ _ _) rfl ?_
    exact ⟨⟨_,rfl⟩,.inr ⟨_,_,trivial,HJ6.out⟩⟩
end Go.Proofs.YtnfdiohfojjnlaaGreat
namespace Go.Proofs.YtnfdiohfojjnlaaGreat
open Go.Lib (hid)
open Go.RowKit Go.Shelf
attribute [local go_sem] Oper.semAt_some
theorem elSl:El 151 149 2:=El.mk' (bytes:=16) (z:=.agg #[.int .i64 0,.int .i64 0]) (by kernel_rfl) (by kernel_rfl) rfl (by omega) (by omega)
theorem zvn (u:Nat→Nat) (mb bt:Nat) (es:zae Nat Nat) (c:Nat) (w:World) (hm:IsMap (slK u) sl1 w mb es c) (hb:zcd es c) (ho:(es.map (·.1)).Nodup) (hes:es.length≤1000) (kt:w.cell? ⟨bt,0,none⟩=some (.map (some mb))) :
  CallsIn Fence.wide 9 Tryz.prog 132 #[.slice none 0 0,.func (.func 133) #[] #[.pointer (some ⟨bt,0,none⟩)]] w fun e w'=>∃ (v:Value) (xs:List Nat),e = .returned v∧Ext w w'∧IsRows w' 2 v (xs.map (zdp u))∧xs.Nodup∧∀ x,x∈xs↔x∈es.map (·.1):=by
 refine callsIn_of_wp_marks Tryz.func132 rfl trivial ?_ rfl;simp only [Tryz.ntmps132,List.size_toArray,List.length_cons,List.length_nil,Nat.reduceAdd,Nat.reduceSub,Array.replicate_succ,Array.replicate_zero,List.push_toArray,List.append_toArray,List.nil_append,List.cons_append];have hzt:=World.block_lt_of_cell? _ _ kt;have hzm:mb < w.heap.size:=(Array.getElem?_eq_some_iff.1 hm).1;simp only at hzt;gi_wp2_with fail;obtain ⟨W5,hW5⟩:∃ W5,W5=w.alloc (.cells #[.slice none 0 0] 151):=⟨_,rfl⟩
 have hE5:Ext w W5:=by rw [hW5];exact xx
 have hz5:W5.heap.size=w.heap.size+1:=by rw [hW5];simp
 have hO5:W5.heap[w.heap.size]? = some (.cells #[.slice none 0 0] 151 (0,0)):=by rw [hW5];exact World.alloc_heap_new w _
 rw [← hW5];have HO5:=hid hO5;have HE15:=hid hE5;have kt5:=zj hE5 kt;have hm5:IsMap (slK u) sl1 W5 mb es c:=(hE5.block mb hzm).trans hm;have HM5:=hid hm5;have HB:=hid hb;have HO:=hid ho;clear hW5 hE5 hO5 kt hm hm5 hb ho;refine zwy (n:=9) (R:=fun k=>k < W5.heap.size∧k≠w.heap.size) rfl (enters_of Tryz.func133 (by kernel_rfl) rfl)
  (z6v u mb bt es c (fun k=>k < W5.heap.size∧k≠w.heap.size) W5 (fun k hk=>hk.1) ⟨by omega,by omega⟩
   (fun W hk=>⟨hk.cell kt5 ⟨by simp only;omega,by simp only;omega⟩,(hk.same mb (by omega) ⟨by omega,by omega⟩).trans HM5.out⟩) HB.out HO.out)
  (Below.refl _ _) (fun k hk=>hk.1) (fun _=>rfl)
  (fun O pre W=>(∀ k,O k→W5.heap.size≤k)∧W5.heap.size≤W.heap.size∧Ext w W∧zzo 151 149 2 w.heap.size (W5.heap.size+2) (pre.map (zdp u)) O W)
  (fun _ _ _ _=>False) ?bears (fun _ _ _ _ _ _ h _ _ _=>h) ⟨fun _ h=>h.elim,Nat.le_refl _,HE15.out,⟨_,HO5.out,Owns.nil _ _ _ _,fun g hg=>(by cases hg)⟩⟩ ?round ?done (fun _ _ _ _ _ _ _ h _=>h.elim)
 case bears =>
  rintro pre O O' A B ⟨g1,g2,g3,g4⟩ hk hO1 hO2;have hlow:Kept (fun k=>k < W5.heap.size) A B:=hk.mono fun k _ hk=>⟨fun ho=>by have:=g1 k ho;omega,by omega⟩
  refine ⟨fun k hk=>?_,by have:=hk.size;omega,g3.trans (Kept.below (hlow.mono fun k _ h=>by omega) g3.size),g4.kept hk ⟨fun ho=>by have:=g1 _ ho;omega,by omega⟩ (fun g h1 h2=>⟨h2,by omega⟩) (fun g h=>(hO2 g h).imp id fun h=>h.1)⟩
  rcases hO2 k hk with h | h
  ·exact g1 k h
  ·omega
 case round =>
  rintro l O pre y W ⟨g1,g2,g3,g4⟩ hy hO2 hW2;simp only [slK]
  gi_wp2
  refine ⟨xx,fun W2 hk2=>?_⟩;have hE2:Ext W (W.alloc (.cells #[.int .i64 (u y:Int),.int .i64 (y:Int)] 149)):=xx;have y0:=hk2.cell (p:=⟨W.heap.size,0,none⟩) (v:=.int .i64 (u y:Int)) (by simp [go_sem]) (by simp;omega);have y1:=hk2.cell (p:=⟨W.heap.size,1,none⟩) (v:=.int .i64 (y:Int)) (by simp [go_sem]) (by simp;omega);have g32:Ext w W2:=(g3.trans' hE2).trans (Kept.below (hk2.mono fun k _ h=>by have:=HE15.out.size;omega) (by have:=g3.size;simp;omega));have g42:zzo 151 149 2 w.heap.size (W5.heap.size+2) (pre.map (zdp u)) O W2 :=
   (g4.kept (O':=O) (.of_below hE2) (S:=fun _=>True) trivial (fun _ _ _=>trivial) (fun _ h=>.inl h)).kept hk2 (by omega) (fun g h1 _=>by omega) (fun _ h=>.inl h)
  have hz2:=hk2.size;simp only [World.size_alloc] at hz2;have hzy:W.heap.size < W2.heap.size:=by omega
  obtain ⟨ov,hov,hown,hno⟩:=g42;obtain ⟨oa,on,oc,rfl⟩:=hown.isSlice;have ho0:W2.cell? ⟨w.heap.size,0,none⟩=some (.slice oa on oc):=by rw [cell_of_row _ _ _ _ _ _ hov];rfl
  have hof:W2.frozen? ⟨w.heap.size,0,none⟩=false:=by simp [World.frozen?,hov]
  have hzo:=(Array.getElem?_eq_some_iff.1 hov).1;have HLL:Hid ((pre.map (zdp u)).length + [zdp u y].length≤1000000):=by
   refine hid ?_
   simp;omega
  have HOV:=hid hov;have HOWN:=hid hown;have HNO:=hid hno;have G3:=hid g32;have HO2:=hid hO2;have HK2:=hid hk2;clear hov hown hno g3 g4 g32 hO2 hk2 hE2 hy;gi_wp2_with (refine zvm rfl (.tmp 8) (.tmp 10) elSl rfl (W5.heap.size+2) rfl (HOWN.out.ext (by exact xx)) W2.heap.size 0 1 [zdp u y] rfl (by simp [zdp]) (newRow _ (zdp u y) _) (by simp [zdp,Value.oneCell']) HLL.out (by simp;omega) ?_);intro v' W4 hown4 hk4 hat4;have hob4:=hown4.notOwn;have hov4:=(hk4.same w.heap.size (by simp;omega) (fun h=>by
   have:=HOWN.out.notOwn _ h.symm;omega)).trans ((Below.heap_alloc W2 _ _ hzo).trans HOV.out)
  have ho4:W4.cell? ⟨w.heap.size,0,none⟩=some (.slice oa on oc):=by rw [cell_of_row _ _ _ _ _ _ hov4];rfl
  have hof4:W4.frozen? ⟨w.heap.size,0,none⟩=false:=by simp [World.frozen?,hov4]
  obtain ⟨va,vn,vc,rfl⟩:=hown4.isSlice;have HK4:=hid hk4;have HAT4:=hid hat4;have HOWN4:=hid hown4;have HOV4:=hid hov4;clear hk4 hat4 hown4 hov4 hob4;gi_wp2_with fail;have hkS:∀ (S:Nat→Prop),(∀ g,(Value.slice oa on oc).ownBlock=some g→¬ S g)→¬ S w.heap.size→Kept S W2 (W4.setCell ⟨w.heap.size,0,none⟩ (.slice va vn vc)):=fun S h1 h2 =>
   (((Kept.refl S W2).alloc _).trans (HK4.out.mono fun k _ hk e=>h1 k e.symm hk)).setCell (fun _=>h2) _
  have hz4:=HK4.out.size;simp only [World.size_alloc] at hz4;have ho5:∀ g,(Value.slice oa on oc).ownBlock=some g→W5.heap.size+2≤g∧¬ O g:=fun g hg=>⟨(HOWN.out.notOwn g hg).1,HNO.out g hg⟩
  refine ⟨hkS _ (fun g hg h=>?_) (fun h=>?_),g1,by simp [World.setCell];omega,?_,_,?_,(by rw [List.map_append];exact (HOWN4.out.setOther HOV4.out (by decide) 0 _).base (by omega)),fun g hg ho=>?_⟩
  ·have:=ho5 g hg
   rcases h with h | h | h | h
   ·omega
   ·exact this.2 h
   ·omega
   ·omega
  ·rcases h with h | h | h | h
   ·exact h.2 rfl
   ·have:=g1 _ h;omega
   ·omega
   ·omega
  ·exact G3.out.trans (Kept.below (hkS _ (fun g hg h=>by have:=ho5 g hg;omega) (by omega)) G3.out.size)
  ·exact zp HOV4.out 0 _
  ·rcases HAT4.out g hg with h | h
   ·exact HNO.out g h ho
   ·have:=(HO2.out g ho).2;have:W2.heap.size+1≤g:=by simpa using h
    omega
 case done =>
  rintro D O xs W hD ⟨hxn,hxs⟩ ⟨g1,g2,g3,g4⟩ hDk;obtain ⟨ov,hov,hown,hno⟩:=g4;obtain ⟨oa,on,oc,rfl⟩:=hown.isSlice;have ho0:W.cell? ⟨w.heap.size,0,none⟩=some (.slice oa on oc):=by rw [cell_of_row _ _ _ _ _ _ hov];rfl
  have HXN:=hid hxn;have HXS:=hid hxs;have HOWN:=hid hown;have HDK:=hid hDk;have hDlt:=(Array.getElem?_eq_some_iff.1 hDk).1;clear hov hown hno hDk hxn hxs;gi_wp2_with fail;refine ⟨by simp,.inl ⟨_,_,rfl,run_takeDeferred HDK.out,?_⟩⟩;refine ⟨.slice oa on oc,by simp [results,Tryz.results132,go_sem],_,_,rfl,?_,?_,HXN.out,HXS.out⟩
  ·have hk:=(((Kept.of_below g3:Kept (fun k=>k < w.heap.size) w W)).putObj (r:=D) (.deferred none) (fun h2 h3=>by have:=g3.size;omega))
   exact hk.below (Nat.le_refl _)
  ·exact (HOWN.out.putOther HDK.out _).isRows
theorem zzx (u:Nat→Nat) (mb bt:Nat) (ws:List Nat) (w:World) (hw:IsW u w mb ws) (hes:ws.length≤1000) (kt:w.cell? ⟨bt,0,none⟩=some (.map (some mb))) :
  Calls Tryz.prog 84 #[.func (.func 133) #[] #[.pointer (some ⟨bt,0,none⟩)]] w fun e w'=>∃ (v:Value) (xs:List Nat),e = .returned v∧Ext w w'∧IsRows w' 2 v (xs.map (zdp u))∧∀ x,x∈xs↔x∈ws:=by
 obtain ⟨es,c,h1,h2,h3,h4,-⟩:=hw;have H:=hid (callsIn_wide.1 (zvn u mb bt es c w h1 h2 (by rw [h3];exact h4) (by rw [← h3,List.length_map] at hes;exact hes) kt));rw [h3] at H;clear kt h1 h2 h3 h4
 go_enter Tryz.func84,Tryz.ntmps84
 go_wp2_with fail;refine H.out.mono ?_
 rintro e W1 ⟨v,xs,rfl,hE,hF,-,hx⟩;obtain ⟨sa,cap,rfl,-,-,-⟩:=z6u hF;have HE:=hid hE;have HF:=hid hF;have HX:=hid hx;clear hE hF hx;go_wp2_with fail;go_ret;exact ⟨_,_,rfl,HE.out,HF.out,HX.out⟩
theorem z6w (mb:Nat) (w:World):Calls Tryz.prog 85 #[.map (some mb)] w fun e w'=>∃ bt,e = .returned (.func (.func 133) #[] #[.pointer (some ⟨bt,0,none⟩)])∧Ext w w'∧w'.cell? ⟨bt,0,none⟩=some (.map (some mb)):=by
 go_enter Tryz.func85,Tryz.ntmps85
 go_wp2_with fail;go_ret;exact ⟨_,rfl,by exact xx,by simp [go_sem]⟩
end Go.Proofs.YtnfdiohfojjnlaaGreat
